/- Certificates, printed by gen.py. -/
import Derived.Test.YtijabmambppfhaaG05D
import Derived.Test.YtijabmambppfhaaG05I
set_option linter.unusedVariables false
set_option linter.unusedSimpArgs false
namespace Go.Sy
abbrev AV.i (n : Int) : AV := .d (.v (.int .i64 n))
abbrev AV.b (b : Bool) : AV := .d (.v (.bool b))
end Go.Sy
namespace Go.SyP
open Go Go.Sy Go.Proofs

noncomputable abbrev K3 (p : List Nat) : List Item := stackAt (Try.f3.body.getD .skip) p []
noncomputable abbrev K14 (p : List Nat) : List Item := stackAt (Try.f14.body.getD .skip) p []
noncomputable abbrev K15 (p : List Nat) : List Item := stackAt (Try.f15.body.getD .skip) p []
noncomputable abbrev K16 (p : List Nat) : List Item := stackAt (Try.f16.body.getD .skip) p []
noncomputable abbrev K17 (p : List Nat) : List Item := stackAt (Try.f17.body.getD .skip) p []
noncomputable abbrev K18 (p : List Nat) : List Item := stackAt (Try.f18.body.getD .skip) p []
noncomputable abbrev K19 (p : List Nat) : List Item := stackAt (Try.f19.body.getD .skip) p []
noncomputable abbrev K20 (p : List Nat) : List Item := stackAt (Try.f20.body.getD .skip) p []
noncomputable abbrev K21 (p : List Nat) : List Item := stackAt (Try.f21.body.getD .skip) p []
noncomputable abbrev K22 (p : List Nat) : List Item := stackAt (Try.f22.body.getD .skip) p []
noncomputable abbrev K23 (p : List Nat) : List Item := stackAt (Try.f23.body.getD .skip) p []
noncomputable abbrev K24 (p : List Nat) : List Item := stackAt (Try.f24.body.getD .skip) p []
noncomputable abbrev K25 (p : List Nat) : List Item := stackAt (Try.f25.body.getD .skip) p []
noncomputable abbrev K27 (p : List Nat) : List Item := stackAt (Try.f27.body.getD .skip) p []
noncomputable abbrev K28 (p : List Nat) : List Item := stackAt (Try.f28.body.getD .skip) p []
noncomputable abbrev K29 (p : List Nat) : List Item := stackAt (Try.f29.body.getD .skip) p []
noncomputable abbrev K30 (p : List Nat) : List Item := stackAt (Try.f30.body.getD .skip) p []
noncomputable abbrev K42 (p : List Nat) : List Item := stackAt (Try.f42.body.getD .skip) p []
noncomputable abbrev K44 (p : List Nat) : List Item := stackAt (Try.f44.body.getD .skip) p []
noncomputable abbrev K45 (p : List Nat) : List Item := stackAt (Try.f45.body.getD .skip) p []
noncomputable abbrev K46 (p : List Nat) : List Item := stackAt (Try.f46.body.getD .skip) p []
noncomputable abbrev K47 (p : List Nat) : List Item := stackAt (Try.f47.body.getD .skip) p []
noncomputable abbrev K48 (p : List Nat) : List Item := stackAt (Try.f48.body.getD .skip) p []
noncomputable abbrev K49 (p : List Nat) : List Item := stackAt (Try.f49.body.getD .skip) p []
noncomputable abbrev K50 (p : List Nat) : List Item := stackAt (Try.f50.body.getD .skip) p []
noncomputable abbrev K51 (p : List Nat) : List Item := stackAt (Try.f51.body.getD .skip) p []
noncomputable abbrev K52 (p : List Nat) : List Item := stackAt (Try.f52.body.getD .skip) p []
noncomputable abbrev K53 (p : List Nat) : List Item := stackAt (Try.f53.body.getD .skip) p []
noncomputable abbrev K54 (p : List Nat) : List Item := stackAt (Try.f54.body.getD .skip) p []
noncomputable abbrev K55 (p : List Nat) : List Item := stackAt (Try.f55.body.getD .skip) p []
noncomputable abbrev K56 (p : List Nat) : List Item := stackAt (Try.f56.body.getD .skip) p []
noncomputable abbrev K57 (p : List Nat) : List Item := stackAt (Try.f57.body.getD .skip) p []
noncomputable abbrev K75 (p : List Nat) : List Item := stackAt (Try.f75.body.getD .skip) p []
noncomputable abbrev K80 (p : List Nat) : List Item := stackAt (Try.f80.body.getD .skip) p []
noncomputable abbrev K81 (p : List Nat) : List Item := stackAt (Try.f81.body.getD .skip) p []
noncomputable abbrev K82 (p : List Nat) : List Item := stackAt (Try.f82.body.getD .skip) p []
noncomputable abbrev K84 (p : List Nat) : List Item := stackAt (Try.f84.body.getD .skip) p []
noncomputable abbrev K85 (p : List Nat) : List Item := stackAt (Try.f85.body.getD .skip) p []
noncomputable abbrev K86 (p : List Nat) : List Item := stackAt (Try.f86.body.getD .skip) p []
noncomputable abbrev K87 (p : List Nat) : List Item := stackAt (Try.f87.body.getD .skip) p []
noncomputable abbrev K88 (p : List Nat) : List Item := stackAt (Try.f88.body.getD .skip) p []
noncomputable abbrev K89 (p : List Nat) : List Item := stackAt (Try.f89.body.getD .skip) p []
noncomputable abbrev K90 (p : List Nat) : List Item := stackAt (Try.f90.body.getD .skip) p []
noncomputable abbrev K91 (p : List Nat) : List Item := stackAt (Try.f91.body.getD .skip) p []
noncomputable abbrev K101 (p : List Nat) : List Item := stackAt (Try.f101.body.getD .skip) p []
noncomputable abbrev K106 (p : List Nat) : List Item := stackAt (Try.f106.body.getD .skip) p []
noncomputable abbrev K107 (p : List Nat) : List Item := stackAt (Try.f107.body.getD .skip) p []
noncomputable abbrev K108 (p : List Nat) : List Item := stackAt (Try.f108.body.getD .skip) p []
noncomputable abbrev K111 (p : List Nat) : List Item := stackAt (Try.f111.body.getD .skip) p []
noncomputable abbrev K112 (p : List Nat) : List Item := stackAt (Try.f112.body.getD .skip) p []
noncomputable abbrev K113 (p : List Nat) : List Item := stackAt (Try.f113.body.getD .skip) p []

theorem splicelaw05_few.says {t0 : Bool} {t2 : Bool} (a0 : List api_Pair) (a1 : api_Mut) (a2 : List api_Span) : Says Try.prog 14 [] [.d (.sl t0 a0.length (vec api_Pair.e api_Pair.z a0)), .d (.agg (api_Mut.e a1)), .d (.sl t2 a2.length (vec api_Span.e api_Span.z a2))] [] (.b (splicelaw05_few a0 a1 a2)) := by
  obtain ⟨r, H⟩ : ∃ r, splicelaw05_few a0 a1 a2 = r := ⟨_, rfl⟩
  rw [H]
  refine says_of Try.func14 rfl (nt := 21) rfl (Nat.le_of_ble_eq_true rfl) fun X hP h0 hX => ?_
  have hT : TabOk X.P T := hP ▸ tok
  have hf : X.P.funcs[14]? = some Try.f14 := hP ▸ Try.func14
  have Jj1 : ∀ (y1_6 : Bool), (splicelaw05_few.j1 y1_6) = r → AK X 14 (K14 [1, 1]) (Back X [] (.b r)) ⟨21, [(6, .b y1_6)], []⟩ := by
    intro y1_6 H
    obtain rfl := H
    exact ak_ret hf hX (av := .b y1_6) (by kernel_rfl) [] (sel_of_eq (by kernel_rfl)) (by decide) (by rw [h0]; rfl) (by kernel_rfl) (fun _ h => all_nil h) (.d (.v _))
  refine go hT 11 [2, 4, 10] (k' := K14 [1, 0, 4]) (st' := ⟨21, [(2, .d (.sl t2 a2.length (vec api_Span.e api_Span.z a2))), (4, .ptr 0 0 0 0), (10, .b (decide ((a0.length : Int) ≤ 200)))], [.box 26 [.i a1.Client, .i a1.Seq, .i a1.Kind, .d (.sl true a1.Pairs.length (vec api_Pair.e api_Pair.z a1.Pairs)), .i a1.Over.Lo, .i a1.Over.Hi, .i a1.Old]]⟩) (by kernel_rfl) ?_
  by_cases c1 : (a0.length : Int) ≤ 200
  · replace H := iteT (K := fun o => o) c1 H
    rw [decide_eq_true c1]
    refine go hT 6 [2, 16] (k' := K14 [1, 0, 10]) (st' := ⟨21, [(2, .d (.sl t2 a2.length (vec api_Span.e api_Span.z a2))), (16, .b (decide ((a1.Pairs.length : Int) ≤ 100)))], [.box 26 [.i a1.Client, .i a1.Seq, .i a1.Kind, .d (.sl true a1.Pairs.length (vec api_Pair.e api_Pair.z a1.Pairs)), .i a1.Over.Lo, .i a1.Over.Hi, .i a1.Old]]⟩) (by kernel_rfl) ?_
    by_cases c2 : (a1.Pairs.length : Int) ≤ 100
    · replace H := iteT (K := fun o => o) c2 H
      rw [decide_eq_true c2]
      refine go hT 6 [6] (k' := K14 [1, 1]) (st' := ⟨21, [(6, .b (decide ((a2.length : Int) ≤ 100)))], [.box 26 [.i a1.Client, .i a1.Seq, .i a1.Kind, .d (.sl true a1.Pairs.length (vec api_Pair.e api_Pair.z a1.Pairs)), .i a1.Over.Lo, .i a1.Over.Hi, .i a1.Old]]⟩) (by kernel_rfl) ?_
      refine ak_cut [6] [] (st' := ⟨21, [(6, .b (decide ((a2.length : Int) ≤ 100)))], []⟩) (by kernel_rfl) (by kernel_rfl) rfl (by decide) (by rw [h0]; rfl) ?_
      exact Jj1 (decide ((a2.length : Int) ≤ 100)) H
    · replace H := iteF (K := fun o => o) c2 H
      rw [decide_eq_false c2]
      refine go hT 6 [6] (k' := K14 [1, 1]) (st' := ⟨21, [(6, .b false)], [.box 26 [.i a1.Client, .i a1.Seq, .i a1.Kind, .d (.sl true a1.Pairs.length (vec api_Pair.e api_Pair.z a1.Pairs)), .i a1.Over.Lo, .i a1.Over.Hi, .i a1.Old]]⟩) (by kernel_rfl) ?_
      refine ak_cut [6] [] (st' := ⟨21, [(6, .b false)], []⟩) (by kernel_rfl) (by kernel_rfl) rfl (by decide) (by rw [h0]; rfl) ?_
      exact Jj1 false H
  · replace H := iteF (K := fun o => o) c1 H
    rw [decide_eq_false c1]
    refine go hT 12 [6] (k' := K14 [1, 1]) (st' := ⟨21, [(6, .b false)], [.box 26 [.i a1.Client, .i a1.Seq, .i a1.Kind, .d (.sl true a1.Pairs.length (vec api_Pair.e api_Pair.z a1.Pairs)), .i a1.Over.Lo, .i a1.Over.Hi, .i a1.Old]]⟩) (by kernel_rfl) ?_
    refine ak_cut [6] [] (st' := ⟨21, [(6, .b false)], []⟩) (by kernel_rfl) (by kernel_rfl) rfl (by decide) (by rw [h0]; rfl) ?_
    exact Jj1 false H


theorem splicelaw05_Refs.says {t0 : Bool} (a0 : List api_Pair) {r : List spliceref04_Pair} (H : splicelaw05_Refs a0 = some r) : Says Try.prog 18 [] [.d (.sl t0 a0.length (vec api_Pair.e api_Pair.z a0))] [.flat false 2 90 r.length (vec spliceref04_Pair.e spliceref04_Pair.z r)] (.own 0 2 0 r.length) := by
  refine says_of Try.func18 rfl (nt := 19) rfl (Nat.le_of_ble_eq_true rfl) fun X hP h0 hX => ?_
  have hT : TabOk X.P T := hP ▸ tok
  have hf : X.P.funcs[18]? = some Try.f18 := hP ▸ Try.func18
  refine go hT 15 [0, 3, 4] (k' := K18 [1, 1, 0, 1, 0, 0]) (st' := ⟨19, [(0, .d (.sl t0 a0.length (vec api_Pair.e api_Pair.z a0))), (3, .d (.v (.slice none 0 0))), (4, .i 0)], []⟩) (by kernel_rfl) ?_
  refine ak_nilS [0, 3, 4] 3 2 90 (vec spliceref04_Pair.e spliceref04_Pair.z []) (st' := ⟨19, [(0, .d (.sl t0 a0.length (vec api_Pair.e api_Pair.z a0))), (3, .own 0 2 0 0), (4, .i 0)], [.flat false 2 90 ([] : List spliceref04_Pair).length (vec spliceref04_Pair.e spliceref04_Pair.z ([] : List spliceref04_Pair))]⟩) (by kernel_rfl) (by kernel_rfl) ?_
  have L : ∀ n, (∀ (x1_4 : Int) (x1_r0 : List spliceref04_Pair), iter (splicelaw05_Refs.step a0) n (.l1 x1_4 x1_r0) = some r → AK X 18 (K18 [1, 1, 0, 1, 0, 0]) (Back X [.flat false 2 90 r.length (vec spliceref04_Pair.e spliceref04_Pair.z r)] (.own 0 2 0 r.length)) ⟨19, [(0, .d (.sl t0 a0.length (vec api_Pair.e api_Pair.z a0))), (3, .own 0 2 0 x1_r0.length), (4, .i x1_4)], [.flat false 2 90 x1_r0.length (vec spliceref04_Pair.e spliceref04_Pair.z x1_r0)]⟩) := by
    intro n
    induction n with
    | zero => exact fun _ _ H => iter0 H
    | succ n ih =>
      · intro x1_4 x1_r0 H
        refine go hT 8 [0, 3, 4, 8] (k' := K18 [1, 1, 0, 1, 0, 0, 0, 1]) (st' := ⟨19, [(0, .d (.sl t0 a0.length (vec api_Pair.e api_Pair.z a0))), (3, .own 0 2 0 x1_r0.length), (4, .i x1_4), (8, .b (decide (x1_4 < (a0.length : Int))))], [.flat false 2 90 x1_r0.length (vec spliceref04_Pair.e spliceref04_Pair.z x1_r0)]⟩) (by kernel_rfl) ?_
        by_cases c1 : x1_4 < (a0.length : Int)
        · replace H := iteT (K := fun o => stk o (iter (splicelaw05_Refs.step a0) n)) c1 H
          rw [decide_eq_true c1]
          refine go hT 2 [0, 3, 4] (k' := K18 [1, 1, 0, 1, 0, 0, 1]) (st' := ⟨19, [(0, .d (.sl t0 a0.length (vec api_Pair.e api_Pair.z a0))), (3, .own 0 2 0 x1_r0.length), (4, .i x1_4)], [.flat false 2 90 x1_r0.length (vec spliceref04_Pair.e spliceref04_Pair.z x1_r0)]⟩) (by kernel_rfl) ?_
          refine go hT 6 [0, 4, 11, 12, 13] (k' := K18 [1, 1, 0, 1, 0, 0, 1, 0, 0, 3]) (st' := ⟨19, [(0, .d (.sl t0 a0.length (vec api_Pair.e api_Pair.z a0))), (4, .i x1_4), (11, .own 0 2 0 x1_r0.length), (12, .d (.sl t0 a0.length (vec api_Pair.e api_Pair.z a0))), (13, .i x1_4)], [.flat false 2 90 x1_r0.length (vec spliceref04_Pair.e spliceref04_Pair.z x1_r0)]⟩) (by kernel_rfl) ?_
          obtain ⟨h2, H⟩ := iteC (K := fun o => stk o (iter (splicelaw05_Refs.step a0) n)) rfl H
          refine ak_idx hT [0, 4, 11, 14] (i := x1_4) (n := (a0.length : Int)) h2.1 h2.2 (k' := K18 [1, 1, 0, 1, 0, 0, 1, 0, 0, 4]) (st' := ⟨19, [(0, .d (.sl t0 a0.length (vec api_Pair.e api_Pair.z a0))), (4, .i x1_4), (11, .own 0 2 0 x1_r0.length), (14, .d (.rop t0 a0.length (vec api_Pair.e api_Pair.z a0) x1_4.toNat 0))], [.flat false 2 90 x1_r0.length (vec spliceref04_Pair.e spliceref04_Pair.z x1_r0)]⟩) (by kernel_rfl) ?_
          refine go hT 2 [0, 4, 11, 16] (k' := K18 [1, 1, 0, 1, 0, 0, 1, 0, 0, 6]) (st' := ⟨19, [(0, .d (.sl t0 a0.length (vec api_Pair.e api_Pair.z a0))), (4, .i x1_4), (11, .own 0 2 0 x1_r0.length), (16, .own 1 2 0 1)], [.flat false 2 90 x1_r0.length (vec spliceref04_Pair.e spliceref04_Pair.z x1_r0), .flat false 2 90 1 (fun j => [api_Pair.e (a0.getD x1_4.toNat api_Pair.z)].getD j [])]⟩) (by kernel_rfl) ?_
          obtain ⟨h3, H⟩ := iteC (K := fun o => stk o (iter (splicelaw05_Refs.step a0) n)) rfl H
          refine ak_append1 (id := 0) (kk := 2) (by' := 16) (t := 32) (e := 90) (z := [.int .i64 0, .int .i64 0]) (dst := some 17) (id2 := 1) (e2 := 90) (fz := false) (k' := K18 [1, 1, 0, 1, 0, 0, 1, 0, 0, 7]) hT spliceref04_Pair.e spliceref04_Pair.z x1_r0 (⟨(a0.getD x1_4.toNat api_Pair.z).Key, (a0.getD x1_4.toNat api_Pair.z).Val⟩ : spliceref04_Pair) [0, 4, 17] (by kernel_rfl) (by kernel_rfl) (by kernel_rfl) (by kernel_rfl) (by kernel_rfl) (by kernel_rfl) (by kernel_rfl) h3 (by omega) (st' := ⟨19, [(0, .d (.sl t0 a0.length (vec api_Pair.e api_Pair.z a0))), (4, .i x1_4), (17, .own 2 2 0 ((x1_r0 ++ [(⟨(a0.getD x1_4.toNat api_Pair.z).Key, (a0.getD x1_4.toNat api_Pair.z).Val⟩ : spliceref04_Pair)]).length))], [.gone, .flat false 2 90 1 (fun j => [api_Pair.e (a0.getD x1_4.toNat api_Pair.z)].getD j []), .flat false 2 90 (x1_r0 ++ [(⟨(a0.getD x1_4.toNat api_Pair.z).Key, (a0.getD x1_4.toNat api_Pair.z).Val⟩ : spliceref04_Pair)]).length (vec spliceref04_Pair.e spliceref04_Pair.z (x1_r0 ++ [(⟨(a0.getD x1_4.toNat api_Pair.z).Key, (a0.getD x1_4.toNat api_Pair.z).Val⟩ : spliceref04_Pair)]))]⟩) (by kernel_rfl) ?_
          refine go hT 9 [0, 3, 4] (k' := K18 [1, 1, 0, 1, 0, 0]) (st' := ⟨19, [(0, .d (.sl t0 a0.length (vec api_Pair.e api_Pair.z a0))), (3, .own 2 2 0 ((x1_r0 ++ [(⟨(a0.getD x1_4.toNat api_Pair.z).Key, (a0.getD x1_4.toNat api_Pair.z).Val⟩ : spliceref04_Pair)]).length)), (4, .i (IntKind.wrap .i64 (x1_4 + 1)))], [.gone, .flat false 2 90 1 (fun j => [api_Pair.e (a0.getD x1_4.toNat api_Pair.z)].getD j []), .flat false 2 90 (x1_r0 ++ [(⟨(a0.getD x1_4.toNat api_Pair.z).Key, (a0.getD x1_4.toNat api_Pair.z).Val⟩ : spliceref04_Pair)]).length (vec spliceref04_Pair.e spliceref04_Pair.z (x1_r0 ++ [(⟨(a0.getD x1_4.toNat api_Pair.z).Key, (a0.getD x1_4.toNat api_Pair.z).Val⟩ : spliceref04_Pair)]))]⟩) (by kernel_rfl) ?_
          refine ak_cut [0, 3, 4] [2] (st' := ⟨19, [(0, .d (.sl t0 a0.length (vec api_Pair.e api_Pair.z a0))), (3, .own 0 2 0 (x1_r0 ++ [(⟨(a0.getD x1_4.toNat api_Pair.z).Key, (a0.getD x1_4.toNat api_Pair.z).Val⟩ : spliceref04_Pair)]).length), (4, .i (IntKind.wrap .i64 (x1_4 + 1)))], [.flat false 2 90 (x1_r0 ++ [(⟨(a0.getD x1_4.toNat api_Pair.z).Key, (a0.getD x1_4.toNat api_Pair.z).Val⟩ : spliceref04_Pair)]).length (vec spliceref04_Pair.e spliceref04_Pair.z (x1_r0 ++ [(⟨(a0.getD x1_4.toNat api_Pair.z).Key, (a0.getD x1_4.toNat api_Pair.z).Val⟩ : spliceref04_Pair)]))]⟩) (by kernel_rfl) (by kernel_rfl) rfl (by decide) (by rw [h0]; rfl) ?_
          exact ih (IntKind.wrap .i64 (x1_4 + 1)) (x1_r0 ++ [(⟨(a0.getD x1_4.toNat api_Pair.z).Key, (a0.getD x1_4.toNat api_Pair.z).Val⟩ : spliceref04_Pair)]) H
        · replace H := iteF (K := fun o => stk o (iter (splicelaw05_Refs.step a0) n)) c1 H
          rw [decide_eq_false c1]
          refine go hT 7 [2] (k' := K18 [1, 1, 1, 1]) (st' := ⟨19, [(2, .own 0 2 0 x1_r0.length)], [.flat false 2 90 x1_r0.length (vec spliceref04_Pair.e spliceref04_Pair.z x1_r0)]⟩) (by kernel_rfl) ?_
          obtain rfl := retC H
          exact ak_ret hf hX (av := .own 0 2 0 x1_r0.length) (by kernel_rfl) [0] (sel_of_eq (by kernel_rfl)) (by decide) (by rw [h0]; rfl) (by kernel_rfl) (fun _ h => all_cons (nr_vec spliceref04_Pair.nl) (fun _ h => all_nil h) h) (.own _ _ _ _)
  refine ak_cut [0, 3, 4] [0] (st' := ⟨19, [(0, .d (.sl t0 a0.length (vec api_Pair.e api_Pair.z a0))), (3, .own 0 2 0 ([] : List spliceref04_Pair).length), (4, .i 0)], [.flat false 2 90 ([] : List spliceref04_Pair).length (vec spliceref04_Pair.e spliceref04_Pair.z ([] : List spliceref04_Pair))]⟩) (by kernel_rfl) (by kernel_rfl) rfl (by decide) (by rw [h0]; rfl) ?_
  obtain ⟨n, H⟩ := loopC H
  exact (L n) 0 ([] : List spliceref04_Pair) H


theorem splicelaw03_Refs.says {t0 : Bool} (a0 : List api_Span) {r : List spliceref03_Span} (H : splicelaw03_Refs a0 = some r) : Says Try.prog 20 [] [.d (.sl t0 a0.length (vec api_Span.e api_Span.z a0))] [.flat false 2 36 r.length (vec spliceref03_Span.e spliceref03_Span.z r)] (.own 0 2 0 r.length) := by
  refine says_of Try.func20 rfl (nt := 19) rfl (Nat.le_of_ble_eq_true rfl) fun X hP h0 hX => ?_
  have hT : TabOk X.P T := hP ▸ tok
  have hf : X.P.funcs[20]? = some Try.f20 := hP ▸ Try.func20
  refine go hT 15 [0, 3, 4] (k' := K20 [1, 1, 0, 1, 0, 0]) (st' := ⟨19, [(0, .d (.sl t0 a0.length (vec api_Span.e api_Span.z a0))), (3, .d (.v (.slice none 0 0))), (4, .i 0)], []⟩) (by kernel_rfl) ?_
  refine ak_nilS [0, 3, 4] 3 2 36 (vec spliceref03_Span.e spliceref03_Span.z []) (st' := ⟨19, [(0, .d (.sl t0 a0.length (vec api_Span.e api_Span.z a0))), (3, .own 0 2 0 0), (4, .i 0)], [.flat false 2 36 ([] : List spliceref03_Span).length (vec spliceref03_Span.e spliceref03_Span.z ([] : List spliceref03_Span))]⟩) (by kernel_rfl) (by kernel_rfl) ?_
  have L : ∀ n, (∀ (x1_4 : Int) (x1_r0 : List spliceref03_Span), iter (splicelaw03_Refs.step a0) n (.l1 x1_4 x1_r0) = some r → AK X 20 (K20 [1, 1, 0, 1, 0, 0]) (Back X [.flat false 2 36 r.length (vec spliceref03_Span.e spliceref03_Span.z r)] (.own 0 2 0 r.length)) ⟨19, [(0, .d (.sl t0 a0.length (vec api_Span.e api_Span.z a0))), (3, .own 0 2 0 x1_r0.length), (4, .i x1_4)], [.flat false 2 36 x1_r0.length (vec spliceref03_Span.e spliceref03_Span.z x1_r0)]⟩) := by
    intro n
    induction n with
    | zero => exact fun _ _ H => iter0 H
    | succ n ih =>
      · intro x1_4 x1_r0 H
        refine go hT 8 [0, 3, 4, 8] (k' := K20 [1, 1, 0, 1, 0, 0, 0, 1]) (st' := ⟨19, [(0, .d (.sl t0 a0.length (vec api_Span.e api_Span.z a0))), (3, .own 0 2 0 x1_r0.length), (4, .i x1_4), (8, .b (decide (x1_4 < (a0.length : Int))))], [.flat false 2 36 x1_r0.length (vec spliceref03_Span.e spliceref03_Span.z x1_r0)]⟩) (by kernel_rfl) ?_
        by_cases c1 : x1_4 < (a0.length : Int)
        · replace H := iteT (K := fun o => stk o (iter (splicelaw03_Refs.step a0) n)) c1 H
          rw [decide_eq_true c1]
          refine go hT 2 [0, 3, 4] (k' := K20 [1, 1, 0, 1, 0, 0, 1]) (st' := ⟨19, [(0, .d (.sl t0 a0.length (vec api_Span.e api_Span.z a0))), (3, .own 0 2 0 x1_r0.length), (4, .i x1_4)], [.flat false 2 36 x1_r0.length (vec spliceref03_Span.e spliceref03_Span.z x1_r0)]⟩) (by kernel_rfl) ?_
          refine go hT 6 [0, 4, 11, 12, 13] (k' := K20 [1, 1, 0, 1, 0, 0, 1, 0, 0, 3]) (st' := ⟨19, [(0, .d (.sl t0 a0.length (vec api_Span.e api_Span.z a0))), (4, .i x1_4), (11, .own 0 2 0 x1_r0.length), (12, .d (.sl t0 a0.length (vec api_Span.e api_Span.z a0))), (13, .i x1_4)], [.flat false 2 36 x1_r0.length (vec spliceref03_Span.e spliceref03_Span.z x1_r0)]⟩) (by kernel_rfl) ?_
          obtain ⟨h2, H⟩ := iteC (K := fun o => stk o (iter (splicelaw03_Refs.step a0) n)) rfl H
          refine ak_idx hT [0, 4, 11, 14] (i := x1_4) (n := (a0.length : Int)) h2.1 h2.2 (k' := K20 [1, 1, 0, 1, 0, 0, 1, 0, 0, 4]) (st' := ⟨19, [(0, .d (.sl t0 a0.length (vec api_Span.e api_Span.z a0))), (4, .i x1_4), (11, .own 0 2 0 x1_r0.length), (14, .d (.rop t0 a0.length (vec api_Span.e api_Span.z a0) x1_4.toNat 0))], [.flat false 2 36 x1_r0.length (vec spliceref03_Span.e spliceref03_Span.z x1_r0)]⟩) (by kernel_rfl) ?_
          refine go hT 2 [0, 4, 11, 16] (k' := K20 [1, 1, 0, 1, 0, 0, 1, 0, 0, 6]) (st' := ⟨19, [(0, .d (.sl t0 a0.length (vec api_Span.e api_Span.z a0))), (4, .i x1_4), (11, .own 0 2 0 x1_r0.length), (16, .own 1 2 0 1)], [.flat false 2 36 x1_r0.length (vec spliceref03_Span.e spliceref03_Span.z x1_r0), .flat false 2 36 1 (fun j => [api_Span.e (a0.getD x1_4.toNat api_Span.z)].getD j [])]⟩) (by kernel_rfl) ?_
          obtain ⟨h3, H⟩ := iteC (K := fun o => stk o (iter (splicelaw03_Refs.step a0) n)) rfl H
          refine ak_append1 (id := 0) (kk := 2) (by' := 16) (t := 40) (e := 36) (z := [.int .i64 0, .int .i64 0]) (dst := some 17) (id2 := 1) (e2 := 36) (fz := false) (k' := K20 [1, 1, 0, 1, 0, 0, 1, 0, 0, 7]) hT spliceref03_Span.e spliceref03_Span.z x1_r0 (⟨(a0.getD x1_4.toNat api_Span.z).Lo, (a0.getD x1_4.toNat api_Span.z).Hi⟩ : spliceref03_Span) [0, 4, 17] (by kernel_rfl) (by kernel_rfl) (by kernel_rfl) (by kernel_rfl) (by kernel_rfl) (by kernel_rfl) (by kernel_rfl) h3 (by omega) (st' := ⟨19, [(0, .d (.sl t0 a0.length (vec api_Span.e api_Span.z a0))), (4, .i x1_4), (17, .own 2 2 0 ((x1_r0 ++ [(⟨(a0.getD x1_4.toNat api_Span.z).Lo, (a0.getD x1_4.toNat api_Span.z).Hi⟩ : spliceref03_Span)]).length))], [.gone, .flat false 2 36 1 (fun j => [api_Span.e (a0.getD x1_4.toNat api_Span.z)].getD j []), .flat false 2 36 (x1_r0 ++ [(⟨(a0.getD x1_4.toNat api_Span.z).Lo, (a0.getD x1_4.toNat api_Span.z).Hi⟩ : spliceref03_Span)]).length (vec spliceref03_Span.e spliceref03_Span.z (x1_r0 ++ [(⟨(a0.getD x1_4.toNat api_Span.z).Lo, (a0.getD x1_4.toNat api_Span.z).Hi⟩ : spliceref03_Span)]))]⟩) (by kernel_rfl) ?_
          refine go hT 9 [0, 3, 4] (k' := K20 [1, 1, 0, 1, 0, 0]) (st' := ⟨19, [(0, .d (.sl t0 a0.length (vec api_Span.e api_Span.z a0))), (3, .own 2 2 0 ((x1_r0 ++ [(⟨(a0.getD x1_4.toNat api_Span.z).Lo, (a0.getD x1_4.toNat api_Span.z).Hi⟩ : spliceref03_Span)]).length)), (4, .i (IntKind.wrap .i64 (x1_4 + 1)))], [.gone, .flat false 2 36 1 (fun j => [api_Span.e (a0.getD x1_4.toNat api_Span.z)].getD j []), .flat false 2 36 (x1_r0 ++ [(⟨(a0.getD x1_4.toNat api_Span.z).Lo, (a0.getD x1_4.toNat api_Span.z).Hi⟩ : spliceref03_Span)]).length (vec spliceref03_Span.e spliceref03_Span.z (x1_r0 ++ [(⟨(a0.getD x1_4.toNat api_Span.z).Lo, (a0.getD x1_4.toNat api_Span.z).Hi⟩ : spliceref03_Span)]))]⟩) (by kernel_rfl) ?_
          refine ak_cut [0, 3, 4] [2] (st' := ⟨19, [(0, .d (.sl t0 a0.length (vec api_Span.e api_Span.z a0))), (3, .own 0 2 0 (x1_r0 ++ [(⟨(a0.getD x1_4.toNat api_Span.z).Lo, (a0.getD x1_4.toNat api_Span.z).Hi⟩ : spliceref03_Span)]).length), (4, .i (IntKind.wrap .i64 (x1_4 + 1)))], [.flat false 2 36 (x1_r0 ++ [(⟨(a0.getD x1_4.toNat api_Span.z).Lo, (a0.getD x1_4.toNat api_Span.z).Hi⟩ : spliceref03_Span)]).length (vec spliceref03_Span.e spliceref03_Span.z (x1_r0 ++ [(⟨(a0.getD x1_4.toNat api_Span.z).Lo, (a0.getD x1_4.toNat api_Span.z).Hi⟩ : spliceref03_Span)]))]⟩) (by kernel_rfl) (by kernel_rfl) rfl (by decide) (by rw [h0]; rfl) ?_
          exact ih (IntKind.wrap .i64 (x1_4 + 1)) (x1_r0 ++ [(⟨(a0.getD x1_4.toNat api_Span.z).Lo, (a0.getD x1_4.toNat api_Span.z).Hi⟩ : spliceref03_Span)]) H
        · replace H := iteF (K := fun o => stk o (iter (splicelaw03_Refs.step a0) n)) c1 H
          rw [decide_eq_false c1]
          refine go hT 7 [2] (k' := K20 [1, 1, 1, 1]) (st' := ⟨19, [(2, .own 0 2 0 x1_r0.length)], [.flat false 2 36 x1_r0.length (vec spliceref03_Span.e spliceref03_Span.z x1_r0)]⟩) (by kernel_rfl) ?_
          obtain rfl := retC H
          exact ak_ret hf hX (av := .own 0 2 0 x1_r0.length) (by kernel_rfl) [0] (sel_of_eq (by kernel_rfl)) (by decide) (by rw [h0]; rfl) (by kernel_rfl) (fun _ h => all_cons (nr_vec spliceref03_Span.nl) (fun _ h => all_nil h) h) (.own _ _ _ _)
  refine ak_cut [0, 3, 4] [0] (st' := ⟨19, [(0, .d (.sl t0 a0.length (vec api_Span.e api_Span.z a0))), (3, .own 0 2 0 ([] : List spliceref03_Span).length), (4, .i 0)], [.flat false 2 36 ([] : List spliceref03_Span).length (vec spliceref03_Span.e spliceref03_Span.z ([] : List spliceref03_Span))]⟩) (by kernel_rfl) (by kernel_rfl) rfl (by decide) (by rw [h0]; rfl) ?_
  obtain ⟨n, H⟩ := loopC H
  exact (L n) 0 ([] : List spliceref03_Span) H


theorem spliceref05_Same.says {t0 : Bool} {t1 : Bool} (a0 : List spliceref04_Pair) (a1 : List spliceref04_Pair) {r : Bool} (H : spliceref05_Same a0 a1 = some r) : Says Try.prog 21 [] [.d (.sl t0 a0.length (vec spliceref04_Pair.e spliceref04_Pair.z a0)), .d (.sl t1 a1.length (vec spliceref04_Pair.e spliceref04_Pair.z a1))] [] (.b r) := by
  refine says_of Try.func21 rfl (nt := 26) rfl (Nat.le_of_ble_eq_true rfl) fun X hP h0 hX => ?_
  have hT : TabOk X.P T := hP ▸ tok
  have hf : X.P.funcs[21]? = some Try.f21 := hP ▸ Try.func21
  refine go hT 13 [0, 1, 10] (k' := K21 [1, 0, 1]) (st' := ⟨26, [(0, .d (.sl t0 a0.length (vec spliceref04_Pair.e spliceref04_Pair.z a0))), (1, .d (.sl t1 a1.length (vec spliceref04_Pair.e spliceref04_Pair.z a1))), (10, .b ((a0.length : Int) != (a1.length : Int)))], []⟩) (by kernel_rfl) ?_
  by_cases c1 : (a0.length : Int) = (a1.length : Int)
  · replace H := iteT (K := fun o => o) c1 H
    rw [neF c1]
    refine go hT 2 [0, 1] (k' := K21 [1, 1]) (st' := ⟨26, [(0, .d (.sl t0 a0.length (vec spliceref04_Pair.e spliceref04_Pair.z a0))), (1, .d (.sl t1 a1.length (vec spliceref04_Pair.e spliceref04_Pair.z a1)))], []⟩) (by kernel_rfl) ?_
    refine go hT 7 [0, 1, 5] (k' := K21 [1, 1, 0, 1, 0, 0]) (st' := ⟨26, [(0, .d (.sl t0 a0.length (vec spliceref04_Pair.e spliceref04_Pair.z a0))), (1, .d (.sl t1 a1.length (vec spliceref04_Pair.e spliceref04_Pair.z a1))), (5, .i 0)], []⟩) (by kernel_rfl) ?_
    have L : ∀ n, (∀ (x1_5 : Int), iter (spliceref05_Same.step a0 a1) n (.l1 x1_5) = some r → AK X 21 (K21 [1, 1, 0, 1, 0, 0]) (Back X [] (.b r)) ⟨26, [(0, .d (.sl t0 a0.length (vec spliceref04_Pair.e spliceref04_Pair.z a0))), (1, .d (.sl t1 a1.length (vec spliceref04_Pair.e spliceref04_Pair.z a1))), (5, .i x1_5)], []⟩) := by
      intro n
      induction n with
      | zero => exact fun _ H => iter0 H
      | succ n ih =>
        · intro x1_5 H
          refine go hT 8 [0, 1, 5, 14] (k' := K21 [1, 1, 0, 1, 0, 0, 0, 1]) (st' := ⟨26, [(0, .d (.sl t0 a0.length (vec spliceref04_Pair.e spliceref04_Pair.z a0))), (1, .d (.sl t1 a1.length (vec spliceref04_Pair.e spliceref04_Pair.z a1))), (5, .i x1_5), (14, .b (decide (x1_5 < (a0.length : Int))))], []⟩) (by kernel_rfl) ?_
          by_cases c2 : x1_5 < (a0.length : Int)
          · replace H := iteT (K := fun o => stk o (iter (spliceref05_Same.step a0 a1) n)) c2 H
            rw [decide_eq_true c2]
            refine go hT 2 [0, 1, 5] (k' := K21 [1, 1, 0, 1, 0, 0, 1]) (st' := ⟨26, [(0, .d (.sl t0 a0.length (vec spliceref04_Pair.e spliceref04_Pair.z a0))), (1, .d (.sl t1 a1.length (vec spliceref04_Pair.e spliceref04_Pair.z a1))), (5, .i x1_5)], []⟩) (by kernel_rfl) ?_
            refine go hT 3 [0, 1, 5] (k' := K21 [1, 1, 0, 1, 0, 0, 1, 0, 0, 0]) (st' := ⟨26, [(0, .d (.sl t0 a0.length (vec spliceref04_Pair.e spliceref04_Pair.z a0))), (1, .d (.sl t1 a1.length (vec spliceref04_Pair.e spliceref04_Pair.z a1))), (5, .i x1_5)], []⟩) (by kernel_rfl) ?_
            obtain ⟨h3, H⟩ := iteC (K := fun o => stk o (iter (spliceref05_Same.step a0 a1) n)) rfl H
            obtain ⟨h4, H⟩ := iteC (K := fun o => stk o (iter (spliceref05_Same.step a0 a1) n)) rfl H
            refine ak_drawAt (nt := 26) (rows := []) (hP ▸ mixed) 9 [0, 1, 5] [(0, .d (.sl t0 a0.length (vec spliceref04_Pair.e spliceref04_Pair.z a0))), (1, .d (.sl t1 a1.length (vec spliceref04_Pair.e spliceref04_Pair.z a1))), (5, .i x1_5)] [some (.d (.sl t0 a0.length (vec spliceref04_Pair.e spliceref04_Pair.z a0))), some (.i x1_5), some (.d (.rop t0 a0.length (vec spliceref04_Pair.e spliceref04_Pair.z a0) x1_5.toNat 0)), some (.d (.agg (spliceref04_Pair.e (a0.getD x1_5.toNat spliceref04_Pair.z)))), some (.d (.sl t1 a1.length (vec spliceref04_Pair.e spliceref04_Pair.z a1))), some (.i x1_5), some (.d (.rop t1 a1.length (vec spliceref04_Pair.e spliceref04_Pair.z a1) x1_5.toNat 0)), some (.d (.agg (spliceref04_Pair.e (a1.getD x1_5.toNat spliceref04_Pair.z)))), some (.b (!((((a0.getD x1_5.toNat spliceref04_Pair.z).Key) == ((a1.getD x1_5.toNat spliceref04_Pair.z).Key)) && (((a0.getD x1_5.toNat spliceref04_Pair.z).Val) == ((a1.getD x1_5.toNat spliceref04_Pair.z).Val)))))] (by kernel_rfl) (by kernel_rfl) (by kernel_rfl) (opS (opS (opS (opS (opS (opS (opS (opS (opS op0 (op_go hT fun R rest => by kernel_rfl)) (op_go hT fun R rest => by kernel_rfl)) (fun R rest h => ak_idx0 hT (i := x1_5) (n := (a0.length : Int)) h3.1 h3.2 (by kernel_rfl) h)) (op_go hT fun R rest => by kernel_rfl)) (op_go hT fun R rest => by kernel_rfl)) (op_go hT fun R rest => by kernel_rfl)) (fun R rest h => ak_idx0 hT (i := x1_5) (n := (a1.length : Int)) h4.1 h4.2 (by kernel_rfl) h)) (op_go hT fun R rest => by kernel_rfl)) (op_go hT fun R rest => by kernel_rfl)) ?_
            refine go hT 1 [0, 1, 5, 25] (k' := K21 [1, 1, 0, 1, 0, 0, 1, 0, 0, 1]) (st' := ⟨26, [(0, .d (.sl t0 a0.length (vec spliceref04_Pair.e spliceref04_Pair.z a0))), (1, .d (.sl t1 a1.length (vec spliceref04_Pair.e spliceref04_Pair.z a1))), (5, .i x1_5), (25, .b (!((((a0.getD x1_5.toNat spliceref04_Pair.z).Key) == ((a1.getD x1_5.toNat spliceref04_Pair.z).Key)) && (((a0.getD x1_5.toNat spliceref04_Pair.z).Val) == ((a1.getD x1_5.toNat spliceref04_Pair.z).Val)))))], []⟩) (by kernel_rfl) ?_
            by_cases c5 : ((a0.getD x1_5.toNat spliceref04_Pair.z).Key) = ((a1.getD x1_5.toNat spliceref04_Pair.z).Key)
            · replace H := iteT (K := fun o => stk o (iter (spliceref05_Same.step a0 a1) n)) c5 H
              rw [eqT c5]
              by_cases c6 : ((a0.getD x1_5.toNat spliceref04_Pair.z).Val) = ((a1.getD x1_5.toNat spliceref04_Pair.z).Val)
              · replace H := iteT (K := fun o => stk o (iter (spliceref05_Same.step a0 a1) n)) c6 H
                rw [eqT c6]
                refine go hT 3 [0, 1, 5] (k' := K21 [1, 1, 0, 1, 0, 0, 1, 1]) (st' := ⟨26, [(0, .d (.sl t0 a0.length (vec spliceref04_Pair.e spliceref04_Pair.z a0))), (1, .d (.sl t1 a1.length (vec spliceref04_Pair.e spliceref04_Pair.z a1))), (5, .i x1_5)], []⟩) (by kernel_rfl) ?_
                refine go hT 6 [0, 1, 5] (k' := K21 [1, 1, 0, 1, 0, 0]) (st' := ⟨26, [(0, .d (.sl t0 a0.length (vec spliceref04_Pair.e spliceref04_Pair.z a0))), (1, .d (.sl t1 a1.length (vec spliceref04_Pair.e spliceref04_Pair.z a1))), (5, .i (IntKind.wrap .i64 (x1_5 + 1)))], []⟩) (by kernel_rfl) ?_
                refine ak_cut [0, 1, 5] [] (st' := ⟨26, [(0, .d (.sl t0 a0.length (vec spliceref04_Pair.e spliceref04_Pair.z a0))), (1, .d (.sl t1 a1.length (vec spliceref04_Pair.e spliceref04_Pair.z a1))), (5, .i (IntKind.wrap .i64 (x1_5 + 1)))], []⟩) (by kernel_rfl) (by kernel_rfl) rfl (by decide) (by rw [h0]; rfl) ?_
                exact ih (IntKind.wrap .i64 (x1_5 + 1)) H
              · replace H := iteF (K := fun o => stk o (iter (spliceref05_Same.step a0 a1) n)) c6 H
                rw [eqF c6]
                refine go hT 5 [4] (k' := K21 [1, 1, 0, 1, 0, 0, 1, 0, 0, 1, 0, 1]) (st' := ⟨26, [(4, .b false)], []⟩) (by kernel_rfl) ?_
                obtain rfl := retC H
                exact ak_ret hf hX (av := .b false) (by kernel_rfl) [] (sel_of_eq (by kernel_rfl)) (by decide) (by rw [h0]; rfl) (by kernel_rfl) (fun _ h => all_nil h) (.d (.v _))
            · replace H := iteF (K := fun o => stk o (iter (spliceref05_Same.step a0 a1) n)) c5 H
              rw [eqF c5]
              by_cases c7 : ((a0.getD x1_5.toNat spliceref04_Pair.z).Val) = ((a1.getD x1_5.toNat spliceref04_Pair.z).Val)
              · replace H := iteT (K := fun o => stk o (iter (spliceref05_Same.step a0 a1) n)) c7 H
                rw [eqT c7]
                refine go hT 5 [4] (k' := K21 [1, 1, 0, 1, 0, 0, 1, 0, 0, 1, 0, 1]) (st' := ⟨26, [(4, .b false)], []⟩) (by kernel_rfl) ?_
                obtain rfl := retC H
                exact ak_ret hf hX (av := .b false) (by kernel_rfl) [] (sel_of_eq (by kernel_rfl)) (by decide) (by rw [h0]; rfl) (by kernel_rfl) (fun _ h => all_nil h) (.d (.v _))
              · replace H := iteF (K := fun o => stk o (iter (spliceref05_Same.step a0 a1) n)) c7 H
                rw [eqF c7]
                refine go hT 5 [4] (k' := K21 [1, 1, 0, 1, 0, 0, 1, 0, 0, 1, 0, 1]) (st' := ⟨26, [(4, .b false)], []⟩) (by kernel_rfl) ?_
                obtain rfl := retC H
                exact ak_ret hf hX (av := .b false) (by kernel_rfl) [] (sel_of_eq (by kernel_rfl)) (by decide) (by rw [h0]; rfl) (by kernel_rfl) (fun _ h => all_nil h) (.d (.v _))
          · replace H := iteF (K := fun o => stk o (iter (spliceref05_Same.step a0 a1) n)) c2 H
            rw [decide_eq_false c2]
            refine go hT 6 [4] (k' := K21 [1, 1, 1, 1]) (st' := ⟨26, [(4, .b true)], []⟩) (by kernel_rfl) ?_
            obtain rfl := retC H
            exact ak_ret hf hX (av := .b true) (by kernel_rfl) [] (sel_of_eq (by kernel_rfl)) (by decide) (by rw [h0]; rfl) (by kernel_rfl) (fun _ h => all_nil h) (.d (.v _))
    refine ak_cut [0, 1, 5] [] (st' := ⟨26, [(0, .d (.sl t0 a0.length (vec spliceref04_Pair.e spliceref04_Pair.z a0))), (1, .d (.sl t1 a1.length (vec spliceref04_Pair.e spliceref04_Pair.z a1))), (5, .i 0)], []⟩) (by kernel_rfl) (by kernel_rfl) rfl (by decide) (by rw [h0]; rfl) ?_
    obtain ⟨n, H⟩ := loopC H
    exact (L n) 0 H
  · replace H := iteF (K := fun o => o) c1 H
    rw [neT c1]
    refine go hT 5 [4] (k' := K21 [1, 0, 1, 0, 1]) (st' := ⟨26, [(4, .b false)], []⟩) (by kernel_rfl) ?_
    obtain rfl := retC H
    exact ak_ret hf hX (av := .b false) (by kernel_rfl) [] (sel_of_eq (by kernel_rfl)) (by decide) (by rw [h0]; rfl) (by kernel_rfl) (fun _ h => all_nil h) (.d (.v _))


theorem table_Check.says {t0 : Bool} (a0 : List api_Pair) {r : Bool} (H : table_Check a0 = some r) : Says Try.prog 22 [] [.d (.sl t0 a0.length (vec api_Pair.e api_Pair.z a0))] [] (.b r) := by
  refine says_of Try.func22 rfl (nt := 46) rfl (Nat.le_of_ble_eq_true rfl) fun X hP h0 hX => ?_
  have hT : TabOk X.P T := hP ▸ tok
  have hf : X.P.funcs[22]? = some Try.f22 := hP ▸ Try.func22
  refine go hT 13 [0, 5, 6, 7] (k' := K22 [1, 0, 1, 0, 0]) (st' := ⟨46, [(0, .d (.sl t0 a0.length (vec api_Pair.e api_Pair.z a0))), (5, .d (.sl t0 a0.length (vec api_Pair.e api_Pair.z a0))), (6, .i (a0.length : Int)), (7, .i 0)], []⟩) (by kernel_rfl) ?_
  have L : ∀ n, (∀ (x1_7 : Int), iter (table_Check.step a0) n (.l1 x1_7) = some r → AK X 22 (K22 [1, 0, 1, 0, 0]) (Back X [] (.b r)) ⟨46, [(0, .d (.sl t0 a0.length (vec api_Pair.e api_Pair.z a0))), (5, .d (.sl t0 a0.length (vec api_Pair.e api_Pair.z a0))), (6, .i (a0.length : Int)), (7, .i x1_7)], []⟩) := by
    intro n
    induction n with
    | zero => exact fun _ H => iter0 H
    | succ n ih =>
      · intro x1_7 H
        refine go hT 5 [0, 5, 6, 7, 8] (k' := K22 [1, 0, 1, 0, 0, 1, 0]) (st' := ⟨46, [(0, .d (.sl t0 a0.length (vec api_Pair.e api_Pair.z a0))), (5, .d (.sl t0 a0.length (vec api_Pair.e api_Pair.z a0))), (6, .i (a0.length : Int)), (7, .i x1_7), (8, .b (decide (x1_7 < (a0.length : Int))))], []⟩) (by kernel_rfl) ?_
        by_cases c1 : x1_7 < (a0.length : Int)
        · replace H := iteT (K := fun o => stk o (iter (table_Check.step a0) n)) c1 H
          rw [decide_eq_true c1]
          refine go hT 2 [0, 5, 6, 7] (k' := K22 [1, 0, 1, 0, 0, 1, 1]) (st' := ⟨46, [(0, .d (.sl t0 a0.length (vec api_Pair.e api_Pair.z a0))), (5, .d (.sl t0 a0.length (vec api_Pair.e api_Pair.z a0))), (6, .i (a0.length : Int)), (7, .i x1_7)], []⟩) (by kernel_rfl) ?_
          refine go hT 5 [0, 5, 6, 7, 9] (k' := K22 [1, 0, 1, 0, 0, 1, 1, 0, 0, 0, 1]) (st' := ⟨46, [(0, .d (.sl t0 a0.length (vec api_Pair.e api_Pair.z a0))), (5, .d (.sl t0 a0.length (vec api_Pair.e api_Pair.z a0))), (6, .i (a0.length : Int)), (7, .i x1_7), (9, .i x1_7)], []⟩) (by kernel_rfl) ?_
          obtain ⟨h2, H⟩ := iteC (K := fun o => stk o (iter (table_Check.step a0) n)) rfl H
          have Jj1 : ∀ (y1_44 : Bool), stk (table_Check.j1 x1_7 y1_44) (iter (table_Check.step a0) n) = some r → AK X 22 (K22 [1, 0, 1, 0, 0, 1, 1, 0, 0, 1, 1]) (Back X [] (.b r)) ⟨46, [(0, .d (.sl t0 a0.length (vec api_Pair.e api_Pair.z a0))), (5, .d (.sl t0 a0.length (vec api_Pair.e api_Pair.z a0))), (6, .i (a0.length : Int)), (7, .i x1_7), (44, .b y1_44)], []⟩ := by
            intro y1_44 H
            by_cases c9 : y1_44 = true
            · replace H := iteT (K := fun o => stk o (iter (table_Check.step a0) n)) c9 H
              rw [c9]
              refine go hT 5 [2] (k' := K22 [1, 0, 1, 0, 0, 1, 1, 0, 0, 1, 1, 0, 1]) (st' := ⟨46, [(2, .b false)], []⟩) (by kernel_rfl) ?_
              obtain rfl := retC H
              exact ak_ret hf hX (av := .b false) (by kernel_rfl) [] (sel_of_eq (by kernel_rfl)) (by decide) (by rw [h0]; rfl) (by kernel_rfl) (fun _ h => all_nil h) (.d (.v _))
            · replace H := iteF (K := fun o => stk o (iter (table_Check.step a0) n)) c9 H
              rw [boF c9]
              refine go hT 3 [0, 5, 6, 7] (k' := K22 [1, 0, 1, 0, 0, 1, 1, 1]) (st' := ⟨46, [(0, .d (.sl t0 a0.length (vec api_Pair.e api_Pair.z a0))), (5, .d (.sl t0 a0.length (vec api_Pair.e api_Pair.z a0))), (6, .i (a0.length : Int)), (7, .i x1_7)], []⟩) (by kernel_rfl) ?_
              refine go hT 5 [0, 5, 6, 7] (k' := K22 [1, 0, 1, 0, 0]) (st' := ⟨46, [(0, .d (.sl t0 a0.length (vec api_Pair.e api_Pair.z a0))), (5, .d (.sl t0 a0.length (vec api_Pair.e api_Pair.z a0))), (6, .i (a0.length : Int)), (7, .i (IntKind.wrap .i64 (x1_7 + 1)))], []⟩) (by kernel_rfl) ?_
              refine ak_cut [0, 5, 6, 7] [] (st' := ⟨46, [(0, .d (.sl t0 a0.length (vec api_Pair.e api_Pair.z a0))), (5, .d (.sl t0 a0.length (vec api_Pair.e api_Pair.z a0))), (6, .i (a0.length : Int)), (7, .i (IntKind.wrap .i64 (x1_7 + 1)))], []⟩) (by kernel_rfl) (by kernel_rfl) rfl (by decide) (by rw [h0]; rfl) ?_
              exact ih (IntKind.wrap .i64 (x1_7 + 1)) H
          refine ak_idx hT [0, 5, 6, 7, 9, 10] (i := x1_7) (n := (a0.length : Int)) h2.1 h2.2 (k' := K22 [1, 0, 1, 0, 0, 1, 1, 0, 0, 0, 2]) (st' := ⟨46, [(0, .d (.sl t0 a0.length (vec api_Pair.e api_Pair.z a0))), (5, .d (.sl t0 a0.length (vec api_Pair.e api_Pair.z a0))), (6, .i (a0.length : Int)), (7, .i x1_7), (9, .i x1_7), (10, .d (.rop t0 a0.length (vec api_Pair.e api_Pair.z a0) x1_7.toNat 0))], []⟩) (by kernel_rfl) ?_
          refine go hT 6 [0, 3, 4, 5, 6, 7] (k' := K22 [1, 0, 1, 0, 0, 1, 1, 0, 0, 1, 0]) (st' := ⟨46, [(0, .d (.sl t0 a0.length (vec api_Pair.e api_Pair.z a0))), (3, .i x1_7), (4, .ptr 0 0 0 0), (5, .d (.sl t0 a0.length (vec api_Pair.e api_Pair.z a0))), (6, .i (a0.length : Int)), (7, .i x1_7)], [.box 47 [.i ((a0.getD x1_7.toNat api_Pair.z).Key), .i ((a0.getD x1_7.toNat api_Pair.z).Val)]]⟩) (by kernel_rfl) ?_
          by_cases c3 : ((a0.getD x1_7.toNat api_Pair.z).Key) < 0
          · replace H := iteT (K := fun o => stk o (iter (table_Check.step a0) n)) c3 H
            refine ak_drawAt (nt := 46) (rows := [.box 47 [.i ((a0.getD x1_7.toNat api_Pair.z).Key), .i ((a0.getD x1_7.toNat api_Pair.z).Val)]]) (hP ▸ mixed) 33 [0, 3, 4, 5, 6, 7] [(0, .d (.sl t0 a0.length (vec api_Pair.e api_Pair.z a0))), (3, .i x1_7), (4, .ptr 0 0 0 0), (5, .d (.sl t0 a0.length (vec api_Pair.e api_Pair.z a0))), (6, .i (a0.length : Int)), (7, .i x1_7)] [some (.ptr 0 0 0 0), some (.i ((a0.getD x1_7.toNat api_Pair.z).Key)), some (.b true), some (.b true), some (.tup []), some (.tup []), some (.tup []), some (.b true), some (.b true), some (.tup []), some (.tup []), some (.tup []), some (.b true), some (.b true), some (.tup []), some (.tup []), some (.tup []), some (.b true), some (.b true), some (.tup []), some (.tup []), some (.tup []), some (.tup []), some (.tup []), some (.tup []), some (.tup []), some (.tup []), some (.tup []), some (.tup []), some (.tup []), some (.tup []), some (.tup []), some (.b true)] (by kernel_rfl) (by kernel_rfl) (by kernel_rfl) (opS (opS (opS (opS (opS (opS (opS (opS (opS (opS (opS (opS (opS (opS (opS (opS (opS (opS (opS (opS (opS (opS (opS (opS (opS (opS (opS (opS (opS (opS (opS (opS (opS op0 (op_go hT fun R rest => by kernel_rfl)) (op_go hT fun R rest => by kernel_rfl)) (op_goE hT (st' := fun R rest => ⟨46, (14, .b (decide (((a0.getD x1_7.toNat api_Pair.z).Key) < 0))) :: needOf (opsAt (K22 [1, 0, 1, 0, 0, 1, 1, 0, 0, 1, 0])) [(0, .d (.sl t0 a0.length (vec api_Pair.e api_Pair.z a0))), (3, .i x1_7), (4, .ptr 0 0 0 0), (5, .d (.sl t0 a0.length (vec api_Pair.e api_Pair.z a0))), (6, .i (a0.length : Int)), (7, .i x1_7)] [some (.ptr 0 0 0 0), some (.i ((a0.getD x1_7.toNat api_Pair.z).Key)), some (.b true), some (.b true), some (.tup []), some (.tup []), some (.tup []), some (.b true), some (.b true), some (.tup []), some (.tup []), some (.tup []), some (.b true), some (.b true), some (.tup []), some (.tup []), some (.tup []), some (.b true), some (.b true), some (.tup []), some (.tup []), some (.tup []), some (.tup []), some (.tup []), some (.tup []), some (.tup []), some (.tup []), some (.tup []), some (.tup []), some (.tup []), some (.tup []), some (.tup []), some (.b true)] 2 ++ rest, [.box 47 [.i ((a0.getD x1_7.toNat api_Pair.z).Key), .i ((a0.getD x1_7.toNat api_Pair.z).Val)]]⟩) (fun R rest => by kernel_rfl) (fun R rest => by rw [decide_eq_true c3]; first | done | rfl))) (op_go hT fun R rest => by kernel_rfl)) (op_go hT fun R rest => by kernel_rfl)) (op_go hT fun R rest => by kernel_rfl)) (op_go hT fun R rest => by kernel_rfl)) (op_go hT fun R rest => by kernel_rfl)) (op_go hT fun R rest => by kernel_rfl)) (op_go hT fun R rest => by kernel_rfl)) (op_go hT fun R rest => by kernel_rfl)) (op_go hT fun R rest => by kernel_rfl)) (op_go hT fun R rest => by kernel_rfl)) (op_go hT fun R rest => by kernel_rfl)) (op_go hT fun R rest => by kernel_rfl)) (op_go hT fun R rest => by kernel_rfl)) (op_go hT fun R rest => by kernel_rfl)) (op_go hT fun R rest => by kernel_rfl)) (op_go hT fun R rest => by kernel_rfl)) (op_go hT fun R rest => by kernel_rfl)) (op_go hT fun R rest => by kernel_rfl)) (op_go hT fun R rest => by kernel_rfl)) (op_go hT fun R rest => by kernel_rfl)) (op_go hT fun R rest => by kernel_rfl)) (op_go hT fun R rest => by kernel_rfl)) (op_go hT fun R rest => by kernel_rfl)) (op_go hT fun R rest => by kernel_rfl)) (op_go hT fun R rest => by kernel_rfl)) (op_go hT fun R rest => by kernel_rfl)) (op_go hT fun R rest => by kernel_rfl)) (op_go hT fun R rest => by kernel_rfl)) (op_go hT fun R rest => by kernel_rfl)) (op_go hT fun R rest => by kernel_rfl)) ?_
            refine go hT 1 [0, 5, 6, 7, 44] (k' := K22 [1, 0, 1, 0, 0, 1, 1, 0, 0, 1, 1]) (st' := ⟨46, [(0, .d (.sl t0 a0.length (vec api_Pair.e api_Pair.z a0))), (5, .d (.sl t0 a0.length (vec api_Pair.e api_Pair.z a0))), (6, .i (a0.length : Int)), (7, .i x1_7), (44, .b true)], [.box 47 [.i ((a0.getD x1_7.toNat api_Pair.z).Key), .i ((a0.getD x1_7.toNat api_Pair.z).Val)]]⟩) (by kernel_rfl) ?_
            refine ak_cut [0, 5, 6, 7, 44] [] (st' := ⟨46, [(0, .d (.sl t0 a0.length (vec api_Pair.e api_Pair.z a0))), (5, .d (.sl t0 a0.length (vec api_Pair.e api_Pair.z a0))), (6, .i (a0.length : Int)), (7, .i x1_7), (44, .b true)], []⟩) (by kernel_rfl) (by kernel_rfl) rfl (by decide) (by rw [h0]; rfl) ?_
            exact Jj1 true H
          · replace H := iteF (K := fun o => stk o (iter (table_Check.step a0) n)) c3 H
            by_cases c4 : ((a0.getD x1_7.toNat api_Pair.z).Key) ≥ 4096
            · replace H := iteT (K := fun o => stk o (iter (table_Check.step a0) n)) c4 H
              refine ak_drawAt (nt := 46) (rows := [.box 47 [.i ((a0.getD x1_7.toNat api_Pair.z).Key), .i ((a0.getD x1_7.toNat api_Pair.z).Val)]]) (hP ▸ mixed) 33 [0, 3, 4, 5, 6, 7] [(0, .d (.sl t0 a0.length (vec api_Pair.e api_Pair.z a0))), (3, .i x1_7), (4, .ptr 0 0 0 0), (5, .d (.sl t0 a0.length (vec api_Pair.e api_Pair.z a0))), (6, .i (a0.length : Int)), (7, .i x1_7)] [some (.ptr 0 0 0 0), some (.i ((a0.getD x1_7.toNat api_Pair.z).Key)), some (.b false), some (.b false), some (.ptr 0 0 0 0), some (.i ((a0.getD x1_7.toNat api_Pair.z).Key)), some (.b true), some (.b true), some (.b true), some (.tup []), some (.tup []), some (.tup []), some (.b true), some (.b true), some (.tup []), some (.tup []), some (.tup []), some (.b true), some (.b true), some (.tup []), some (.tup []), some (.tup []), some (.tup []), some (.tup []), some (.tup []), some (.tup []), some (.tup []), some (.tup []), some (.tup []), some (.tup []), some (.tup []), some (.tup []), some (.b true)] (by kernel_rfl) (by kernel_rfl) (by kernel_rfl) (opS (opS (opS (opS (opS (opS (opS (opS (opS (opS (opS (opS (opS (opS (opS (opS (opS (opS (opS (opS (opS (opS (opS (opS (opS (opS (opS (opS (opS (opS (opS (opS (opS op0 (op_go hT fun R rest => by kernel_rfl)) (op_go hT fun R rest => by kernel_rfl)) (op_goE hT (st' := fun R rest => ⟨46, (14, .b (decide (((a0.getD x1_7.toNat api_Pair.z).Key) < 0))) :: needOf (opsAt (K22 [1, 0, 1, 0, 0, 1, 1, 0, 0, 1, 0])) [(0, .d (.sl t0 a0.length (vec api_Pair.e api_Pair.z a0))), (3, .i x1_7), (4, .ptr 0 0 0 0), (5, .d (.sl t0 a0.length (vec api_Pair.e api_Pair.z a0))), (6, .i (a0.length : Int)), (7, .i x1_7)] [some (.ptr 0 0 0 0), some (.i ((a0.getD x1_7.toNat api_Pair.z).Key)), some (.b false), some (.b false), some (.ptr 0 0 0 0), some (.i ((a0.getD x1_7.toNat api_Pair.z).Key)), some (.b true), some (.b true), some (.b true), some (.tup []), some (.tup []), some (.tup []), some (.b true), some (.b true), some (.tup []), some (.tup []), some (.tup []), some (.b true), some (.b true), some (.tup []), some (.tup []), some (.tup []), some (.tup []), some (.tup []), some (.tup []), some (.tup []), some (.tup []), some (.tup []), some (.tup []), some (.tup []), some (.tup []), some (.tup []), some (.b true)] 2 ++ rest, [.box 47 [.i ((a0.getD x1_7.toNat api_Pair.z).Key), .i ((a0.getD x1_7.toNat api_Pair.z).Val)]]⟩) (fun R rest => by kernel_rfl) (fun R rest => by rw [decide_eq_false c3]; first | done | rfl))) (op_go hT fun R rest => by kernel_rfl)) (op_go hT fun R rest => by kernel_rfl)) (op_go hT fun R rest => by kernel_rfl)) (op_goE hT (st' := fun R rest => ⟨46, (18, .b (decide (((a0.getD x1_7.toNat api_Pair.z).Key) ≥ 4096))) :: needOf (opsAt (K22 [1, 0, 1, 0, 0, 1, 1, 0, 0, 1, 0])) [(0, .d (.sl t0 a0.length (vec api_Pair.e api_Pair.z a0))), (3, .i x1_7), (4, .ptr 0 0 0 0), (5, .d (.sl t0 a0.length (vec api_Pair.e api_Pair.z a0))), (6, .i (a0.length : Int)), (7, .i x1_7)] [some (.ptr 0 0 0 0), some (.i ((a0.getD x1_7.toNat api_Pair.z).Key)), some (.b false), some (.b false), some (.ptr 0 0 0 0), some (.i ((a0.getD x1_7.toNat api_Pair.z).Key)), some (.b true), some (.b true), some (.b true), some (.tup []), some (.tup []), some (.tup []), some (.b true), some (.b true), some (.tup []), some (.tup []), some (.tup []), some (.b true), some (.b true), some (.tup []), some (.tup []), some (.tup []), some (.tup []), some (.tup []), some (.tup []), some (.tup []), some (.tup []), some (.tup []), some (.tup []), some (.tup []), some (.tup []), some (.tup []), some (.b true)] 6 ++ rest, [.box 47 [.i ((a0.getD x1_7.toNat api_Pair.z).Key), .i ((a0.getD x1_7.toNat api_Pair.z).Val)]]⟩) (fun R rest => by kernel_rfl) (fun R rest => by rw [decide_eq_true c4]; first | done | rfl))) (op_go hT fun R rest => by kernel_rfl)) (op_go hT fun R rest => by kernel_rfl)) (op_go hT fun R rest => by kernel_rfl)) (op_go hT fun R rest => by kernel_rfl)) (op_go hT fun R rest => by kernel_rfl)) (op_go hT fun R rest => by kernel_rfl)) (op_go hT fun R rest => by kernel_rfl)) (op_go hT fun R rest => by kernel_rfl)) (op_go hT fun R rest => by kernel_rfl)) (op_go hT fun R rest => by kernel_rfl)) (op_go hT fun R rest => by kernel_rfl)) (op_go hT fun R rest => by kernel_rfl)) (op_go hT fun R rest => by kernel_rfl)) (op_go hT fun R rest => by kernel_rfl)) (op_go hT fun R rest => by kernel_rfl)) (op_go hT fun R rest => by kernel_rfl)) (op_go hT fun R rest => by kernel_rfl)) (op_go hT fun R rest => by kernel_rfl)) (op_go hT fun R rest => by kernel_rfl)) (op_go hT fun R rest => by kernel_rfl)) (op_go hT fun R rest => by kernel_rfl)) (op_go hT fun R rest => by kernel_rfl)) (op_go hT fun R rest => by kernel_rfl)) (op_go hT fun R rest => by kernel_rfl)) (op_go hT fun R rest => by kernel_rfl)) (op_go hT fun R rest => by kernel_rfl)) ?_
              refine go hT 1 [0, 5, 6, 7, 44] (k' := K22 [1, 0, 1, 0, 0, 1, 1, 0, 0, 1, 1]) (st' := ⟨46, [(0, .d (.sl t0 a0.length (vec api_Pair.e api_Pair.z a0))), (5, .d (.sl t0 a0.length (vec api_Pair.e api_Pair.z a0))), (6, .i (a0.length : Int)), (7, .i x1_7), (44, .b true)], [.box 47 [.i ((a0.getD x1_7.toNat api_Pair.z).Key), .i ((a0.getD x1_7.toNat api_Pair.z).Val)]]⟩) (by kernel_rfl) ?_
              refine ak_cut [0, 5, 6, 7, 44] [] (st' := ⟨46, [(0, .d (.sl t0 a0.length (vec api_Pair.e api_Pair.z a0))), (5, .d (.sl t0 a0.length (vec api_Pair.e api_Pair.z a0))), (6, .i (a0.length : Int)), (7, .i x1_7), (44, .b true)], []⟩) (by kernel_rfl) (by kernel_rfl) rfl (by decide) (by rw [h0]; rfl) ?_
              exact Jj1 true H
            · replace H := iteF (K := fun o => stk o (iter (table_Check.step a0) n)) c4 H
              by_cases c5 : ((a0.getD x1_7.toNat api_Pair.z).Val) < (-1099511627776)
              · replace H := iteT (K := fun o => stk o (iter (table_Check.step a0) n)) c5 H
                refine ak_drawAt (nt := 46) (rows := [.box 47 [.i ((a0.getD x1_7.toNat api_Pair.z).Key), .i ((a0.getD x1_7.toNat api_Pair.z).Val)]]) (hP ▸ mixed) 33 [0, 3, 4, 5, 6, 7] [(0, .d (.sl t0 a0.length (vec api_Pair.e api_Pair.z a0))), (3, .i x1_7), (4, .ptr 0 0 0 0), (5, .d (.sl t0 a0.length (vec api_Pair.e api_Pair.z a0))), (6, .i (a0.length : Int)), (7, .i x1_7)] [some (.ptr 0 0 0 0), some (.i ((a0.getD x1_7.toNat api_Pair.z).Key)), some (.b false), some (.b false), some (.ptr 0 0 0 0), some (.i ((a0.getD x1_7.toNat api_Pair.z).Key)), some (.b false), some (.b false), some (.b false), some (.ptr 0 0 0 1), some (.i ((a0.getD x1_7.toNat api_Pair.z).Val)), some (.b true), some (.b true), some (.b true), some (.tup []), some (.tup []), some (.tup []), some (.b true), some (.b true), some (.tup []), some (.tup []), some (.tup []), some (.tup []), some (.tup []), some (.tup []), some (.tup []), some (.tup []), some (.tup []), some (.tup []), some (.tup []), some (.tup []), some (.tup []), some (.b true)] (by kernel_rfl) (by kernel_rfl) (by kernel_rfl) (opS (opS (opS (opS (opS (opS (opS (opS (opS (opS (opS (opS (opS (opS (opS (opS (opS (opS (opS (opS (opS (opS (opS (opS (opS (opS (opS (opS (opS (opS (opS (opS (opS op0 (op_go hT fun R rest => by kernel_rfl)) (op_go hT fun R rest => by kernel_rfl)) (op_goE hT (st' := fun R rest => ⟨46, (14, .b (decide (((a0.getD x1_7.toNat api_Pair.z).Key) < 0))) :: needOf (opsAt (K22 [1, 0, 1, 0, 0, 1, 1, 0, 0, 1, 0])) [(0, .d (.sl t0 a0.length (vec api_Pair.e api_Pair.z a0))), (3, .i x1_7), (4, .ptr 0 0 0 0), (5, .d (.sl t0 a0.length (vec api_Pair.e api_Pair.z a0))), (6, .i (a0.length : Int)), (7, .i x1_7)] [some (.ptr 0 0 0 0), some (.i ((a0.getD x1_7.toNat api_Pair.z).Key)), some (.b false), some (.b false), some (.ptr 0 0 0 0), some (.i ((a0.getD x1_7.toNat api_Pair.z).Key)), some (.b false), some (.b false), some (.b false), some (.ptr 0 0 0 1), some (.i ((a0.getD x1_7.toNat api_Pair.z).Val)), some (.b true), some (.b true), some (.b true), some (.tup []), some (.tup []), some (.tup []), some (.b true), some (.b true), some (.tup []), some (.tup []), some (.tup []), some (.tup []), some (.tup []), some (.tup []), some (.tup []), some (.tup []), some (.tup []), some (.tup []), some (.tup []), some (.tup []), some (.tup []), some (.b true)] 2 ++ rest, [.box 47 [.i ((a0.getD x1_7.toNat api_Pair.z).Key), .i ((a0.getD x1_7.toNat api_Pair.z).Val)]]⟩) (fun R rest => by kernel_rfl) (fun R rest => by rw [decide_eq_false c3]; first | done | rfl))) (op_go hT fun R rest => by kernel_rfl)) (op_go hT fun R rest => by kernel_rfl)) (op_go hT fun R rest => by kernel_rfl)) (op_goE hT (st' := fun R rest => ⟨46, (18, .b (decide (((a0.getD x1_7.toNat api_Pair.z).Key) ≥ 4096))) :: needOf (opsAt (K22 [1, 0, 1, 0, 0, 1, 1, 0, 0, 1, 0])) [(0, .d (.sl t0 a0.length (vec api_Pair.e api_Pair.z a0))), (3, .i x1_7), (4, .ptr 0 0 0 0), (5, .d (.sl t0 a0.length (vec api_Pair.e api_Pair.z a0))), (6, .i (a0.length : Int)), (7, .i x1_7)] [some (.ptr 0 0 0 0), some (.i ((a0.getD x1_7.toNat api_Pair.z).Key)), some (.b false), some (.b false), some (.ptr 0 0 0 0), some (.i ((a0.getD x1_7.toNat api_Pair.z).Key)), some (.b false), some (.b false), some (.b false), some (.ptr 0 0 0 1), some (.i ((a0.getD x1_7.toNat api_Pair.z).Val)), some (.b true), some (.b true), some (.b true), some (.tup []), some (.tup []), some (.tup []), some (.b true), some (.b true), some (.tup []), some (.tup []), some (.tup []), some (.tup []), some (.tup []), some (.tup []), some (.tup []), some (.tup []), some (.tup []), some (.tup []), some (.tup []), some (.tup []), some (.tup []), some (.b true)] 6 ++ rest, [.box 47 [.i ((a0.getD x1_7.toNat api_Pair.z).Key), .i ((a0.getD x1_7.toNat api_Pair.z).Val)]]⟩) (fun R rest => by kernel_rfl) (fun R rest => by rw [decide_eq_false c4]; first | done | rfl))) (op_go hT fun R rest => by kernel_rfl)) (op_go hT fun R rest => by kernel_rfl)) (op_go hT fun R rest => by kernel_rfl)) (op_go hT fun R rest => by kernel_rfl)) (op_goE hT (st' := fun R rest => ⟨46, (23, .b (decide (((a0.getD x1_7.toNat api_Pair.z).Val) < (-1099511627776)))) :: needOf (opsAt (K22 [1, 0, 1, 0, 0, 1, 1, 0, 0, 1, 0])) [(0, .d (.sl t0 a0.length (vec api_Pair.e api_Pair.z a0))), (3, .i x1_7), (4, .ptr 0 0 0 0), (5, .d (.sl t0 a0.length (vec api_Pair.e api_Pair.z a0))), (6, .i (a0.length : Int)), (7, .i x1_7)] [some (.ptr 0 0 0 0), some (.i ((a0.getD x1_7.toNat api_Pair.z).Key)), some (.b false), some (.b false), some (.ptr 0 0 0 0), some (.i ((a0.getD x1_7.toNat api_Pair.z).Key)), some (.b false), some (.b false), some (.b false), some (.ptr 0 0 0 1), some (.i ((a0.getD x1_7.toNat api_Pair.z).Val)), some (.b true), some (.b true), some (.b true), some (.tup []), some (.tup []), some (.tup []), some (.b true), some (.b true), some (.tup []), some (.tup []), some (.tup []), some (.tup []), some (.tup []), some (.tup []), some (.tup []), some (.tup []), some (.tup []), some (.tup []), some (.tup []), some (.tup []), some (.tup []), some (.b true)] 11 ++ rest, [.box 47 [.i ((a0.getD x1_7.toNat api_Pair.z).Key), .i ((a0.getD x1_7.toNat api_Pair.z).Val)]]⟩) (fun R rest => by kernel_rfl) (fun R rest => by rw [decide_eq_true c5]; first | done | rfl))) (op_go hT fun R rest => by kernel_rfl)) (op_go hT fun R rest => by kernel_rfl)) (op_go hT fun R rest => by kernel_rfl)) (op_go hT fun R rest => by kernel_rfl)) (op_go hT fun R rest => by kernel_rfl)) (op_go hT fun R rest => by kernel_rfl)) (op_go hT fun R rest => by kernel_rfl)) (op_go hT fun R rest => by kernel_rfl)) (op_go hT fun R rest => by kernel_rfl)) (op_go hT fun R rest => by kernel_rfl)) (op_go hT fun R rest => by kernel_rfl)) (op_go hT fun R rest => by kernel_rfl)) (op_go hT fun R rest => by kernel_rfl)) (op_go hT fun R rest => by kernel_rfl)) (op_go hT fun R rest => by kernel_rfl)) (op_go hT fun R rest => by kernel_rfl)) (op_go hT fun R rest => by kernel_rfl)) (op_go hT fun R rest => by kernel_rfl)) (op_go hT fun R rest => by kernel_rfl)) (op_go hT fun R rest => by kernel_rfl)) (op_go hT fun R rest => by kernel_rfl)) ?_
                refine go hT 1 [0, 5, 6, 7, 44] (k' := K22 [1, 0, 1, 0, 0, 1, 1, 0, 0, 1, 1]) (st' := ⟨46, [(0, .d (.sl t0 a0.length (vec api_Pair.e api_Pair.z a0))), (5, .d (.sl t0 a0.length (vec api_Pair.e api_Pair.z a0))), (6, .i (a0.length : Int)), (7, .i x1_7), (44, .b true)], [.box 47 [.i ((a0.getD x1_7.toNat api_Pair.z).Key), .i ((a0.getD x1_7.toNat api_Pair.z).Val)]]⟩) (by kernel_rfl) ?_
                refine ak_cut [0, 5, 6, 7, 44] [] (st' := ⟨46, [(0, .d (.sl t0 a0.length (vec api_Pair.e api_Pair.z a0))), (5, .d (.sl t0 a0.length (vec api_Pair.e api_Pair.z a0))), (6, .i (a0.length : Int)), (7, .i x1_7), (44, .b true)], []⟩) (by kernel_rfl) (by kernel_rfl) rfl (by decide) (by rw [h0]; rfl) ?_
                exact Jj1 true H
              · replace H := iteF (K := fun o => stk o (iter (table_Check.step a0) n)) c5 H
                by_cases c6 : ((a0.getD x1_7.toNat api_Pair.z).Val) > 1099511627776
                · replace H := iteT (K := fun o => stk o (iter (table_Check.step a0) n)) c6 H
                  refine ak_drawAt (nt := 46) (rows := [.box 47 [.i ((a0.getD x1_7.toNat api_Pair.z).Key), .i ((a0.getD x1_7.toNat api_Pair.z).Val)]]) (hP ▸ mixed) 33 [0, 3, 4, 5, 6, 7] [(0, .d (.sl t0 a0.length (vec api_Pair.e api_Pair.z a0))), (3, .i x1_7), (4, .ptr 0 0 0 0), (5, .d (.sl t0 a0.length (vec api_Pair.e api_Pair.z a0))), (6, .i (a0.length : Int)), (7, .i x1_7)] [some (.ptr 0 0 0 0), some (.i ((a0.getD x1_7.toNat api_Pair.z).Key)), some (.b false), some (.b false), some (.ptr 0 0 0 0), some (.i ((a0.getD x1_7.toNat api_Pair.z).Key)), some (.b false), some (.b false), some (.b false), some (.ptr 0 0 0 1), some (.i ((a0.getD x1_7.toNat api_Pair.z).Val)), some (.b false), some (.b false), some (.b false), some (.ptr 0 0 0 1), some (.i ((a0.getD x1_7.toNat api_Pair.z).Val)), some (.b true), some (.b true), some (.b true), some (.tup []), some (.tup []), some (.tup []), some (.tup []), some (.tup []), some (.tup []), some (.tup []), some (.tup []), some (.tup []), some (.tup []), some (.tup []), some (.tup []), some (.tup []), some (.b true)] (by kernel_rfl) (by kernel_rfl) (by kernel_rfl) (opS (opS (opS (opS (opS (opS (opS (opS (opS (opS (opS (opS (opS (opS (opS (opS (opS (opS (opS (opS (opS (opS (opS (opS (opS (opS (opS (opS (opS (opS (opS (opS (opS op0 (op_go hT fun R rest => by kernel_rfl)) (op_go hT fun R rest => by kernel_rfl)) (op_goE hT (st' := fun R rest => ⟨46, (14, .b (decide (((a0.getD x1_7.toNat api_Pair.z).Key) < 0))) :: needOf (opsAt (K22 [1, 0, 1, 0, 0, 1, 1, 0, 0, 1, 0])) [(0, .d (.sl t0 a0.length (vec api_Pair.e api_Pair.z a0))), (3, .i x1_7), (4, .ptr 0 0 0 0), (5, .d (.sl t0 a0.length (vec api_Pair.e api_Pair.z a0))), (6, .i (a0.length : Int)), (7, .i x1_7)] [some (.ptr 0 0 0 0), some (.i ((a0.getD x1_7.toNat api_Pair.z).Key)), some (.b false), some (.b false), some (.ptr 0 0 0 0), some (.i ((a0.getD x1_7.toNat api_Pair.z).Key)), some (.b false), some (.b false), some (.b false), some (.ptr 0 0 0 1), some (.i ((a0.getD x1_7.toNat api_Pair.z).Val)), some (.b false), some (.b false), some (.b false), some (.ptr 0 0 0 1), some (.i ((a0.getD x1_7.toNat api_Pair.z).Val)), some (.b true), some (.b true), some (.b true), some (.tup []), some (.tup []), some (.tup []), some (.tup []), some (.tup []), some (.tup []), some (.tup []), some (.tup []), some (.tup []), some (.tup []), some (.tup []), some (.tup []), some (.tup []), some (.b true)] 2 ++ rest, [.box 47 [.i ((a0.getD x1_7.toNat api_Pair.z).Key), .i ((a0.getD x1_7.toNat api_Pair.z).Val)]]⟩) (fun R rest => by kernel_rfl) (fun R rest => by rw [decide_eq_false c3]; first | done | rfl))) (op_go hT fun R rest => by kernel_rfl)) (op_go hT fun R rest => by kernel_rfl)) (op_go hT fun R rest => by kernel_rfl)) (op_goE hT (st' := fun R rest => ⟨46, (18, .b (decide (((a0.getD x1_7.toNat api_Pair.z).Key) ≥ 4096))) :: needOf (opsAt (K22 [1, 0, 1, 0, 0, 1, 1, 0, 0, 1, 0])) [(0, .d (.sl t0 a0.length (vec api_Pair.e api_Pair.z a0))), (3, .i x1_7), (4, .ptr 0 0 0 0), (5, .d (.sl t0 a0.length (vec api_Pair.e api_Pair.z a0))), (6, .i (a0.length : Int)), (7, .i x1_7)] [some (.ptr 0 0 0 0), some (.i ((a0.getD x1_7.toNat api_Pair.z).Key)), some (.b false), some (.b false), some (.ptr 0 0 0 0), some (.i ((a0.getD x1_7.toNat api_Pair.z).Key)), some (.b false), some (.b false), some (.b false), some (.ptr 0 0 0 1), some (.i ((a0.getD x1_7.toNat api_Pair.z).Val)), some (.b false), some (.b false), some (.b false), some (.ptr 0 0 0 1), some (.i ((a0.getD x1_7.toNat api_Pair.z).Val)), some (.b true), some (.b true), some (.b true), some (.tup []), some (.tup []), some (.tup []), some (.tup []), some (.tup []), some (.tup []), some (.tup []), some (.tup []), some (.tup []), some (.tup []), some (.tup []), some (.tup []), some (.tup []), some (.b true)] 6 ++ rest, [.box 47 [.i ((a0.getD x1_7.toNat api_Pair.z).Key), .i ((a0.getD x1_7.toNat api_Pair.z).Val)]]⟩) (fun R rest => by kernel_rfl) (fun R rest => by rw [decide_eq_false c4]; first | done | rfl))) (op_go hT fun R rest => by kernel_rfl)) (op_go hT fun R rest => by kernel_rfl)) (op_go hT fun R rest => by kernel_rfl)) (op_go hT fun R rest => by kernel_rfl)) (op_goE hT (st' := fun R rest => ⟨46, (23, .b (decide (((a0.getD x1_7.toNat api_Pair.z).Val) < (-1099511627776)))) :: needOf (opsAt (K22 [1, 0, 1, 0, 0, 1, 1, 0, 0, 1, 0])) [(0, .d (.sl t0 a0.length (vec api_Pair.e api_Pair.z a0))), (3, .i x1_7), (4, .ptr 0 0 0 0), (5, .d (.sl t0 a0.length (vec api_Pair.e api_Pair.z a0))), (6, .i (a0.length : Int)), (7, .i x1_7)] [some (.ptr 0 0 0 0), some (.i ((a0.getD x1_7.toNat api_Pair.z).Key)), some (.b false), some (.b false), some (.ptr 0 0 0 0), some (.i ((a0.getD x1_7.toNat api_Pair.z).Key)), some (.b false), some (.b false), some (.b false), some (.ptr 0 0 0 1), some (.i ((a0.getD x1_7.toNat api_Pair.z).Val)), some (.b false), some (.b false), some (.b false), some (.ptr 0 0 0 1), some (.i ((a0.getD x1_7.toNat api_Pair.z).Val)), some (.b true), some (.b true), some (.b true), some (.tup []), some (.tup []), some (.tup []), some (.tup []), some (.tup []), some (.tup []), some (.tup []), some (.tup []), some (.tup []), some (.tup []), some (.tup []), some (.tup []), some (.tup []), some (.b true)] 11 ++ rest, [.box 47 [.i ((a0.getD x1_7.toNat api_Pair.z).Key), .i ((a0.getD x1_7.toNat api_Pair.z).Val)]]⟩) (fun R rest => by kernel_rfl) (fun R rest => by rw [decide_eq_false c5]; first | done | rfl))) (op_go hT fun R rest => by kernel_rfl)) (op_go hT fun R rest => by kernel_rfl)) (op_go hT fun R rest => by kernel_rfl)) (op_go hT fun R rest => by kernel_rfl)) (op_goE hT (st' := fun R rest => ⟨46, (28, .b (decide (((a0.getD x1_7.toNat api_Pair.z).Val) > 1099511627776))) :: needOf (opsAt (K22 [1, 0, 1, 0, 0, 1, 1, 0, 0, 1, 0])) [(0, .d (.sl t0 a0.length (vec api_Pair.e api_Pair.z a0))), (3, .i x1_7), (4, .ptr 0 0 0 0), (5, .d (.sl t0 a0.length (vec api_Pair.e api_Pair.z a0))), (6, .i (a0.length : Int)), (7, .i x1_7)] [some (.ptr 0 0 0 0), some (.i ((a0.getD x1_7.toNat api_Pair.z).Key)), some (.b false), some (.b false), some (.ptr 0 0 0 0), some (.i ((a0.getD x1_7.toNat api_Pair.z).Key)), some (.b false), some (.b false), some (.b false), some (.ptr 0 0 0 1), some (.i ((a0.getD x1_7.toNat api_Pair.z).Val)), some (.b false), some (.b false), some (.b false), some (.ptr 0 0 0 1), some (.i ((a0.getD x1_7.toNat api_Pair.z).Val)), some (.b true), some (.b true), some (.b true), some (.tup []), some (.tup []), some (.tup []), some (.tup []), some (.tup []), some (.tup []), some (.tup []), some (.tup []), some (.tup []), some (.tup []), some (.tup []), some (.tup []), some (.tup []), some (.b true)] 16 ++ rest, [.box 47 [.i ((a0.getD x1_7.toNat api_Pair.z).Key), .i ((a0.getD x1_7.toNat api_Pair.z).Val)]]⟩) (fun R rest => by kernel_rfl) (fun R rest => by rw [decide_eq_true c6]; first | done | rfl))) (op_go hT fun R rest => by kernel_rfl)) (op_go hT fun R rest => by kernel_rfl)) (op_go hT fun R rest => by kernel_rfl)) (op_go hT fun R rest => by kernel_rfl)) (op_go hT fun R rest => by kernel_rfl)) (op_go hT fun R rest => by kernel_rfl)) (op_go hT fun R rest => by kernel_rfl)) (op_go hT fun R rest => by kernel_rfl)) (op_go hT fun R rest => by kernel_rfl)) (op_go hT fun R rest => by kernel_rfl)) (op_go hT fun R rest => by kernel_rfl)) (op_go hT fun R rest => by kernel_rfl)) (op_go hT fun R rest => by kernel_rfl)) (op_go hT fun R rest => by kernel_rfl)) (op_go hT fun R rest => by kernel_rfl)) (op_go hT fun R rest => by kernel_rfl)) ?_
                  refine go hT 1 [0, 5, 6, 7, 44] (k' := K22 [1, 0, 1, 0, 0, 1, 1, 0, 0, 1, 1]) (st' := ⟨46, [(0, .d (.sl t0 a0.length (vec api_Pair.e api_Pair.z a0))), (5, .d (.sl t0 a0.length (vec api_Pair.e api_Pair.z a0))), (6, .i (a0.length : Int)), (7, .i x1_7), (44, .b true)], [.box 47 [.i ((a0.getD x1_7.toNat api_Pair.z).Key), .i ((a0.getD x1_7.toNat api_Pair.z).Val)]]⟩) (by kernel_rfl) ?_
                  refine ak_cut [0, 5, 6, 7, 44] [] (st' := ⟨46, [(0, .d (.sl t0 a0.length (vec api_Pair.e api_Pair.z a0))), (5, .d (.sl t0 a0.length (vec api_Pair.e api_Pair.z a0))), (6, .i (a0.length : Int)), (7, .i x1_7), (44, .b true)], []⟩) (by kernel_rfl) (by kernel_rfl) rfl (by decide) (by rw [h0]; rfl) ?_
                  exact Jj1 true H
                · replace H := iteF (K := fun o => stk o (iter (table_Check.step a0) n)) c6 H
                  by_cases c7 : x1_7 > 0
                  · replace H := iteT (K := fun o => stk o (iter (table_Check.step a0) n)) c7 H
                    obtain ⟨h8, H⟩ := iteC (K := fun o => stk o (iter (table_Check.step a0) n)) rfl H
                    refine ak_drawAt (nt := 46) (rows := [.box 47 [.i ((a0.getD x1_7.toNat api_Pair.z).Key), .i ((a0.getD x1_7.toNat api_Pair.z).Val)]]) (hP ▸ mixed) 33 [0, 3, 4, 5, 6, 7] [(0, .d (.sl t0 a0.length (vec api_Pair.e api_Pair.z a0))), (3, .i x1_7), (4, .ptr 0 0 0 0), (5, .d (.sl t0 a0.length (vec api_Pair.e api_Pair.z a0))), (6, .i (a0.length : Int)), (7, .i x1_7)] [some (.ptr 0 0 0 0), some (.i ((a0.getD x1_7.toNat api_Pair.z).Key)), some (.b false), some (.b false), some (.ptr 0 0 0 0), some (.i ((a0.getD x1_7.toNat api_Pair.z).Key)), some (.b false), some (.b false), some (.b false), some (.ptr 0 0 0 1), some (.i ((a0.getD x1_7.toNat api_Pair.z).Val)), some (.b false), some (.b false), some (.b false), some (.ptr 0 0 0 1), some (.i ((a0.getD x1_7.toNat api_Pair.z).Val)), some (.b false), some (.b false), some (.b false), some (.i x1_7), some (.b true), some (.b true), some (.d (.sl t0 a0.length (vec api_Pair.e api_Pair.z a0))), some (.i x1_7), some (.i (IntKind.wrap .i64 (x1_7 - 1))), some (.d (.rop t0 a0.length (vec api_Pair.e api_Pair.z a0) ((IntKind.wrap .i64 (x1_7 - 1)).toNat) 0)), some (.d (.rop t0 a0.length (vec api_Pair.e api_Pair.z a0) ((IntKind.wrap .i64 (x1_7 - 1)).toNat) 0)), some (.i ((a0.getD ((IntKind.wrap .i64 (x1_7 - 1)).toNat) api_Pair.z).Key)), some (.ptr 0 0 0 0), some (.i ((a0.getD x1_7.toNat api_Pair.z).Key)), some (.b (decide (((a0.getD ((IntKind.wrap .i64 (x1_7 - 1)).toNat) api_Pair.z).Key) ≥ ((a0.getD x1_7.toNat api_Pair.z).Key)))), some (.b (decide (((a0.getD ((IntKind.wrap .i64 (x1_7 - 1)).toNat) api_Pair.z).Key) ≥ ((a0.getD x1_7.toNat api_Pair.z).Key)))), some (.b (decide (((a0.getD ((IntKind.wrap .i64 (x1_7 - 1)).toNat) api_Pair.z).Key) ≥ ((a0.getD x1_7.toNat api_Pair.z).Key))))] (by kernel_rfl) (by kernel_rfl) (by kernel_rfl) (opS (opS (opS (opS (opS (opS (opS (opS (opS (opS (opS (opS (opS (opS (opS (opS (opS (opS (opS (opS (opS (opS (opS (opS (opS (opS (opS (opS (opS (opS (opS (opS (opS op0 (op_go hT fun R rest => by kernel_rfl)) (op_go hT fun R rest => by kernel_rfl)) (op_goE hT (st' := fun R rest => ⟨46, (14, .b (decide (((a0.getD x1_7.toNat api_Pair.z).Key) < 0))) :: needOf (opsAt (K22 [1, 0, 1, 0, 0, 1, 1, 0, 0, 1, 0])) [(0, .d (.sl t0 a0.length (vec api_Pair.e api_Pair.z a0))), (3, .i x1_7), (4, .ptr 0 0 0 0), (5, .d (.sl t0 a0.length (vec api_Pair.e api_Pair.z a0))), (6, .i (a0.length : Int)), (7, .i x1_7)] [some (.ptr 0 0 0 0), some (.i ((a0.getD x1_7.toNat api_Pair.z).Key)), some (.b false), some (.b false), some (.ptr 0 0 0 0), some (.i ((a0.getD x1_7.toNat api_Pair.z).Key)), some (.b false), some (.b false), some (.b false), some (.ptr 0 0 0 1), some (.i ((a0.getD x1_7.toNat api_Pair.z).Val)), some (.b false), some (.b false), some (.b false), some (.ptr 0 0 0 1), some (.i ((a0.getD x1_7.toNat api_Pair.z).Val)), some (.b false), some (.b false), some (.b false), some (.i x1_7), some (.b true), some (.b true), some (.d (.sl t0 a0.length (vec api_Pair.e api_Pair.z a0))), some (.i x1_7), some (.i (IntKind.wrap .i64 (x1_7 - 1))), some (.d (.rop t0 a0.length (vec api_Pair.e api_Pair.z a0) ((IntKind.wrap .i64 (x1_7 - 1)).toNat) 0)), some (.d (.rop t0 a0.length (vec api_Pair.e api_Pair.z a0) ((IntKind.wrap .i64 (x1_7 - 1)).toNat) 0)), some (.i ((a0.getD ((IntKind.wrap .i64 (x1_7 - 1)).toNat) api_Pair.z).Key)), some (.ptr 0 0 0 0), some (.i ((a0.getD x1_7.toNat api_Pair.z).Key)), some (.b (decide (((a0.getD ((IntKind.wrap .i64 (x1_7 - 1)).toNat) api_Pair.z).Key) ≥ ((a0.getD x1_7.toNat api_Pair.z).Key)))), some (.b (decide (((a0.getD ((IntKind.wrap .i64 (x1_7 - 1)).toNat) api_Pair.z).Key) ≥ ((a0.getD x1_7.toNat api_Pair.z).Key)))), some (.b (decide (((a0.getD ((IntKind.wrap .i64 (x1_7 - 1)).toNat) api_Pair.z).Key) ≥ ((a0.getD x1_7.toNat api_Pair.z).Key))))] 2 ++ rest, [.box 47 [.i ((a0.getD x1_7.toNat api_Pair.z).Key), .i ((a0.getD x1_7.toNat api_Pair.z).Val)]]⟩) (fun R rest => by kernel_rfl) (fun R rest => by rw [decide_eq_false c3]; first | done | rfl))) (op_go hT fun R rest => by kernel_rfl)) (op_go hT fun R rest => by kernel_rfl)) (op_go hT fun R rest => by kernel_rfl)) (op_goE hT (st' := fun R rest => ⟨46, (18, .b (decide (((a0.getD x1_7.toNat api_Pair.z).Key) ≥ 4096))) :: needOf (opsAt (K22 [1, 0, 1, 0, 0, 1, 1, 0, 0, 1, 0])) [(0, .d (.sl t0 a0.length (vec api_Pair.e api_Pair.z a0))), (3, .i x1_7), (4, .ptr 0 0 0 0), (5, .d (.sl t0 a0.length (vec api_Pair.e api_Pair.z a0))), (6, .i (a0.length : Int)), (7, .i x1_7)] [some (.ptr 0 0 0 0), some (.i ((a0.getD x1_7.toNat api_Pair.z).Key)), some (.b false), some (.b false), some (.ptr 0 0 0 0), some (.i ((a0.getD x1_7.toNat api_Pair.z).Key)), some (.b false), some (.b false), some (.b false), some (.ptr 0 0 0 1), some (.i ((a0.getD x1_7.toNat api_Pair.z).Val)), some (.b false), some (.b false), some (.b false), some (.ptr 0 0 0 1), some (.i ((a0.getD x1_7.toNat api_Pair.z).Val)), some (.b false), some (.b false), some (.b false), some (.i x1_7), some (.b true), some (.b true), some (.d (.sl t0 a0.length (vec api_Pair.e api_Pair.z a0))), some (.i x1_7), some (.i (IntKind.wrap .i64 (x1_7 - 1))), some (.d (.rop t0 a0.length (vec api_Pair.e api_Pair.z a0) ((IntKind.wrap .i64 (x1_7 - 1)).toNat) 0)), some (.d (.rop t0 a0.length (vec api_Pair.e api_Pair.z a0) ((IntKind.wrap .i64 (x1_7 - 1)).toNat) 0)), some (.i ((a0.getD ((IntKind.wrap .i64 (x1_7 - 1)).toNat) api_Pair.z).Key)), some (.ptr 0 0 0 0), some (.i ((a0.getD x1_7.toNat api_Pair.z).Key)), some (.b (decide (((a0.getD ((IntKind.wrap .i64 (x1_7 - 1)).toNat) api_Pair.z).Key) ≥ ((a0.getD x1_7.toNat api_Pair.z).Key)))), some (.b (decide (((a0.getD ((IntKind.wrap .i64 (x1_7 - 1)).toNat) api_Pair.z).Key) ≥ ((a0.getD x1_7.toNat api_Pair.z).Key)))), some (.b (decide (((a0.getD ((IntKind.wrap .i64 (x1_7 - 1)).toNat) api_Pair.z).Key) ≥ ((a0.getD x1_7.toNat api_Pair.z).Key))))] 6 ++ rest, [.box 47 [.i ((a0.getD x1_7.toNat api_Pair.z).Key), .i ((a0.getD x1_7.toNat api_Pair.z).Val)]]⟩) (fun R rest => by kernel_rfl) (fun R rest => by rw [decide_eq_false c4]; first | done | rfl))) (op_go hT fun R rest => by kernel_rfl)) (op_go hT fun R rest => by kernel_rfl)) (op_go hT fun R rest => by kernel_rfl)) (op_go hT fun R rest => by kernel_rfl)) (op_goE hT (st' := fun R rest => ⟨46, (23, .b (decide (((a0.getD x1_7.toNat api_Pair.z).Val) < (-1099511627776)))) :: needOf (opsAt (K22 [1, 0, 1, 0, 0, 1, 1, 0, 0, 1, 0])) [(0, .d (.sl t0 a0.length (vec api_Pair.e api_Pair.z a0))), (3, .i x1_7), (4, .ptr 0 0 0 0), (5, .d (.sl t0 a0.length (vec api_Pair.e api_Pair.z a0))), (6, .i (a0.length : Int)), (7, .i x1_7)] [some (.ptr 0 0 0 0), some (.i ((a0.getD x1_7.toNat api_Pair.z).Key)), some (.b false), some (.b false), some (.ptr 0 0 0 0), some (.i ((a0.getD x1_7.toNat api_Pair.z).Key)), some (.b false), some (.b false), some (.b false), some (.ptr 0 0 0 1), some (.i ((a0.getD x1_7.toNat api_Pair.z).Val)), some (.b false), some (.b false), some (.b false), some (.ptr 0 0 0 1), some (.i ((a0.getD x1_7.toNat api_Pair.z).Val)), some (.b false), some (.b false), some (.b false), some (.i x1_7), some (.b true), some (.b true), some (.d (.sl t0 a0.length (vec api_Pair.e api_Pair.z a0))), some (.i x1_7), some (.i (IntKind.wrap .i64 (x1_7 - 1))), some (.d (.rop t0 a0.length (vec api_Pair.e api_Pair.z a0) ((IntKind.wrap .i64 (x1_7 - 1)).toNat) 0)), some (.d (.rop t0 a0.length (vec api_Pair.e api_Pair.z a0) ((IntKind.wrap .i64 (x1_7 - 1)).toNat) 0)), some (.i ((a0.getD ((IntKind.wrap .i64 (x1_7 - 1)).toNat) api_Pair.z).Key)), some (.ptr 0 0 0 0), some (.i ((a0.getD x1_7.toNat api_Pair.z).Key)), some (.b (decide (((a0.getD ((IntKind.wrap .i64 (x1_7 - 1)).toNat) api_Pair.z).Key) ≥ ((a0.getD x1_7.toNat api_Pair.z).Key)))), some (.b (decide (((a0.getD ((IntKind.wrap .i64 (x1_7 - 1)).toNat) api_Pair.z).Key) ≥ ((a0.getD x1_7.toNat api_Pair.z).Key)))), some (.b (decide (((a0.getD ((IntKind.wrap .i64 (x1_7 - 1)).toNat) api_Pair.z).Key) ≥ ((a0.getD x1_7.toNat api_Pair.z).Key))))] 11 ++ rest, [.box 47 [.i ((a0.getD x1_7.toNat api_Pair.z).Key), .i ((a0.getD x1_7.toNat api_Pair.z).Val)]]⟩) (fun R rest => by kernel_rfl) (fun R rest => by rw [decide_eq_false c5]; first | done | rfl))) (op_go hT fun R rest => by kernel_rfl)) (op_go hT fun R rest => by kernel_rfl)) (op_go hT fun R rest => by kernel_rfl)) (op_go hT fun R rest => by kernel_rfl)) (op_goE hT (st' := fun R rest => ⟨46, (28, .b (decide (((a0.getD x1_7.toNat api_Pair.z).Val) > 1099511627776))) :: needOf (opsAt (K22 [1, 0, 1, 0, 0, 1, 1, 0, 0, 1, 0])) [(0, .d (.sl t0 a0.length (vec api_Pair.e api_Pair.z a0))), (3, .i x1_7), (4, .ptr 0 0 0 0), (5, .d (.sl t0 a0.length (vec api_Pair.e api_Pair.z a0))), (6, .i (a0.length : Int)), (7, .i x1_7)] [some (.ptr 0 0 0 0), some (.i ((a0.getD x1_7.toNat api_Pair.z).Key)), some (.b false), some (.b false), some (.ptr 0 0 0 0), some (.i ((a0.getD x1_7.toNat api_Pair.z).Key)), some (.b false), some (.b false), some (.b false), some (.ptr 0 0 0 1), some (.i ((a0.getD x1_7.toNat api_Pair.z).Val)), some (.b false), some (.b false), some (.b false), some (.ptr 0 0 0 1), some (.i ((a0.getD x1_7.toNat api_Pair.z).Val)), some (.b false), some (.b false), some (.b false), some (.i x1_7), some (.b true), some (.b true), some (.d (.sl t0 a0.length (vec api_Pair.e api_Pair.z a0))), some (.i x1_7), some (.i (IntKind.wrap .i64 (x1_7 - 1))), some (.d (.rop t0 a0.length (vec api_Pair.e api_Pair.z a0) ((IntKind.wrap .i64 (x1_7 - 1)).toNat) 0)), some (.d (.rop t0 a0.length (vec api_Pair.e api_Pair.z a0) ((IntKind.wrap .i64 (x1_7 - 1)).toNat) 0)), some (.i ((a0.getD ((IntKind.wrap .i64 (x1_7 - 1)).toNat) api_Pair.z).Key)), some (.ptr 0 0 0 0), some (.i ((a0.getD x1_7.toNat api_Pair.z).Key)), some (.b (decide (((a0.getD ((IntKind.wrap .i64 (x1_7 - 1)).toNat) api_Pair.z).Key) ≥ ((a0.getD x1_7.toNat api_Pair.z).Key)))), some (.b (decide (((a0.getD ((IntKind.wrap .i64 (x1_7 - 1)).toNat) api_Pair.z).Key) ≥ ((a0.getD x1_7.toNat api_Pair.z).Key)))), some (.b (decide (((a0.getD ((IntKind.wrap .i64 (x1_7 - 1)).toNat) api_Pair.z).Key) ≥ ((a0.getD x1_7.toNat api_Pair.z).Key))))] 16 ++ rest, [.box 47 [.i ((a0.getD x1_7.toNat api_Pair.z).Key), .i ((a0.getD x1_7.toNat api_Pair.z).Val)]]⟩) (fun R rest => by kernel_rfl) (fun R rest => by rw [decide_eq_false c6]; first | done | rfl))) (op_go hT fun R rest => by kernel_rfl)) (op_go hT fun R rest => by kernel_rfl)) (op_go hT fun R rest => by kernel_rfl)) (op_goE hT (st' := fun R rest => ⟨46, (32, .b (decide (x1_7 > 0))) :: needOf (opsAt (K22 [1, 0, 1, 0, 0, 1, 1, 0, 0, 1, 0])) [(0, .d (.sl t0 a0.length (vec api_Pair.e api_Pair.z a0))), (3, .i x1_7), (4, .ptr 0 0 0 0), (5, .d (.sl t0 a0.length (vec api_Pair.e api_Pair.z a0))), (6, .i (a0.length : Int)), (7, .i x1_7)] [some (.ptr 0 0 0 0), some (.i ((a0.getD x1_7.toNat api_Pair.z).Key)), some (.b false), some (.b false), some (.ptr 0 0 0 0), some (.i ((a0.getD x1_7.toNat api_Pair.z).Key)), some (.b false), some (.b false), some (.b false), some (.ptr 0 0 0 1), some (.i ((a0.getD x1_7.toNat api_Pair.z).Val)), some (.b false), some (.b false), some (.b false), some (.ptr 0 0 0 1), some (.i ((a0.getD x1_7.toNat api_Pair.z).Val)), some (.b false), some (.b false), some (.b false), some (.i x1_7), some (.b true), some (.b true), some (.d (.sl t0 a0.length (vec api_Pair.e api_Pair.z a0))), some (.i x1_7), some (.i (IntKind.wrap .i64 (x1_7 - 1))), some (.d (.rop t0 a0.length (vec api_Pair.e api_Pair.z a0) ((IntKind.wrap .i64 (x1_7 - 1)).toNat) 0)), some (.d (.rop t0 a0.length (vec api_Pair.e api_Pair.z a0) ((IntKind.wrap .i64 (x1_7 - 1)).toNat) 0)), some (.i ((a0.getD ((IntKind.wrap .i64 (x1_7 - 1)).toNat) api_Pair.z).Key)), some (.ptr 0 0 0 0), some (.i ((a0.getD x1_7.toNat api_Pair.z).Key)), some (.b (decide (((a0.getD ((IntKind.wrap .i64 (x1_7 - 1)).toNat) api_Pair.z).Key) ≥ ((a0.getD x1_7.toNat api_Pair.z).Key)))), some (.b (decide (((a0.getD ((IntKind.wrap .i64 (x1_7 - 1)).toNat) api_Pair.z).Key) ≥ ((a0.getD x1_7.toNat api_Pair.z).Key)))), some (.b (decide (((a0.getD ((IntKind.wrap .i64 (x1_7 - 1)).toNat) api_Pair.z).Key) ≥ ((a0.getD x1_7.toNat api_Pair.z).Key))))] 20 ++ rest, [.box 47 [.i ((a0.getD x1_7.toNat api_Pair.z).Key), .i ((a0.getD x1_7.toNat api_Pair.z).Val)]]⟩) (fun R rest => by kernel_rfl) (fun R rest => by rw [decide_eq_true c7]; first | done | rfl))) (op_go hT fun R rest => by kernel_rfl)) (op_go hT fun R rest => by kernel_rfl)) (op_go hT fun R rest => by kernel_rfl)) (op_go hT fun R rest => by kernel_rfl)) (fun R rest h => ak_idx0 hT (i := IntKind.wrap .i64 (x1_7 - 1)) (n := (a0.length : Int)) h8.1 h8.2 (by kernel_rfl) h)) (op_go hT fun R rest => by kernel_rfl)) (op_go hT fun R rest => by kernel_rfl)) (op_go hT fun R rest => by kernel_rfl)) (op_go hT fun R rest => by kernel_rfl)) (op_go hT fun R rest => by kernel_rfl)) (op_go hT fun R rest => by kernel_rfl)) (op_go hT fun R rest => by kernel_rfl)) ?_
                    refine go hT 1 [0, 5, 6, 7, 44] (k' := K22 [1, 0, 1, 0, 0, 1, 1, 0, 0, 1, 1]) (st' := ⟨46, [(0, .d (.sl t0 a0.length (vec api_Pair.e api_Pair.z a0))), (5, .d (.sl t0 a0.length (vec api_Pair.e api_Pair.z a0))), (6, .i (a0.length : Int)), (7, .i x1_7), (44, .b (decide (((a0.getD ((IntKind.wrap .i64 (x1_7 - 1)).toNat) api_Pair.z).Key) ≥ ((a0.getD x1_7.toNat api_Pair.z).Key))))], [.box 47 [.i ((a0.getD x1_7.toNat api_Pair.z).Key), .i ((a0.getD x1_7.toNat api_Pair.z).Val)]]⟩) (by kernel_rfl) ?_
                    refine ak_cut [0, 5, 6, 7, 44] [] (st' := ⟨46, [(0, .d (.sl t0 a0.length (vec api_Pair.e api_Pair.z a0))), (5, .d (.sl t0 a0.length (vec api_Pair.e api_Pair.z a0))), (6, .i (a0.length : Int)), (7, .i x1_7), (44, .b (decide (((a0.getD ((IntKind.wrap .i64 (x1_7 - 1)).toNat) api_Pair.z).Key) ≥ ((a0.getD x1_7.toNat api_Pair.z).Key))))], []⟩) (by kernel_rfl) (by kernel_rfl) rfl (by decide) (by rw [h0]; rfl) ?_
                    exact Jj1 (decide (((a0.getD ((IntKind.wrap .i64 (x1_7 - 1)).toNat) api_Pair.z).Key) ≥ ((a0.getD x1_7.toNat api_Pair.z).Key))) H
                  · replace H := iteF (K := fun o => stk o (iter (table_Check.step a0) n)) c7 H
                    refine ak_drawAt (nt := 46) (rows := [.box 47 [.i ((a0.getD x1_7.toNat api_Pair.z).Key), .i ((a0.getD x1_7.toNat api_Pair.z).Val)]]) (hP ▸ mixed) 33 [0, 3, 4, 5, 6, 7] [(0, .d (.sl t0 a0.length (vec api_Pair.e api_Pair.z a0))), (3, .i x1_7), (4, .ptr 0 0 0 0), (5, .d (.sl t0 a0.length (vec api_Pair.e api_Pair.z a0))), (6, .i (a0.length : Int)), (7, .i x1_7)] [some (.ptr 0 0 0 0), some (.i ((a0.getD x1_7.toNat api_Pair.z).Key)), some (.b false), some (.b false), some (.ptr 0 0 0 0), some (.i ((a0.getD x1_7.toNat api_Pair.z).Key)), some (.b false), some (.b false), some (.b false), some (.ptr 0 0 0 1), some (.i ((a0.getD x1_7.toNat api_Pair.z).Val)), some (.b false), some (.b false), some (.b false), some (.ptr 0 0 0 1), some (.i ((a0.getD x1_7.toNat api_Pair.z).Val)), some (.b false), some (.b false), some (.b false), some (.i x1_7), some (.b false), some (.b false), some (.tup []), some (.tup []), some (.tup []), some (.tup []), some (.tup []), some (.tup []), some (.tup []), some (.tup []), some (.tup []), some (.b false), some (.b false)] (by kernel_rfl) (by kernel_rfl) (by kernel_rfl) (opS (opS (opS (opS (opS (opS (opS (opS (opS (opS (opS (opS (opS (opS (opS (opS (opS (opS (opS (opS (opS (opS (opS (opS (opS (opS (opS (opS (opS (opS (opS (opS (opS op0 (op_go hT fun R rest => by kernel_rfl)) (op_go hT fun R rest => by kernel_rfl)) (op_goE hT (st' := fun R rest => ⟨46, (14, .b (decide (((a0.getD x1_7.toNat api_Pair.z).Key) < 0))) :: needOf (opsAt (K22 [1, 0, 1, 0, 0, 1, 1, 0, 0, 1, 0])) [(0, .d (.sl t0 a0.length (vec api_Pair.e api_Pair.z a0))), (3, .i x1_7), (4, .ptr 0 0 0 0), (5, .d (.sl t0 a0.length (vec api_Pair.e api_Pair.z a0))), (6, .i (a0.length : Int)), (7, .i x1_7)] [some (.ptr 0 0 0 0), some (.i ((a0.getD x1_7.toNat api_Pair.z).Key)), some (.b false), some (.b false), some (.ptr 0 0 0 0), some (.i ((a0.getD x1_7.toNat api_Pair.z).Key)), some (.b false), some (.b false), some (.b false), some (.ptr 0 0 0 1), some (.i ((a0.getD x1_7.toNat api_Pair.z).Val)), some (.b false), some (.b false), some (.b false), some (.ptr 0 0 0 1), some (.i ((a0.getD x1_7.toNat api_Pair.z).Val)), some (.b false), some (.b false), some (.b false), some (.i x1_7), some (.b false), some (.b false), some (.tup []), some (.tup []), some (.tup []), some (.tup []), some (.tup []), some (.tup []), some (.tup []), some (.tup []), some (.tup []), some (.b false), some (.b false)] 2 ++ rest, [.box 47 [.i ((a0.getD x1_7.toNat api_Pair.z).Key), .i ((a0.getD x1_7.toNat api_Pair.z).Val)]]⟩) (fun R rest => by kernel_rfl) (fun R rest => by rw [decide_eq_false c3]; first | done | rfl))) (op_go hT fun R rest => by kernel_rfl)) (op_go hT fun R rest => by kernel_rfl)) (op_go hT fun R rest => by kernel_rfl)) (op_goE hT (st' := fun R rest => ⟨46, (18, .b (decide (((a0.getD x1_7.toNat api_Pair.z).Key) ≥ 4096))) :: needOf (opsAt (K22 [1, 0, 1, 0, 0, 1, 1, 0, 0, 1, 0])) [(0, .d (.sl t0 a0.length (vec api_Pair.e api_Pair.z a0))), (3, .i x1_7), (4, .ptr 0 0 0 0), (5, .d (.sl t0 a0.length (vec api_Pair.e api_Pair.z a0))), (6, .i (a0.length : Int)), (7, .i x1_7)] [some (.ptr 0 0 0 0), some (.i ((a0.getD x1_7.toNat api_Pair.z).Key)), some (.b false), some (.b false), some (.ptr 0 0 0 0), some (.i ((a0.getD x1_7.toNat api_Pair.z).Key)), some (.b false), some (.b false), some (.b false), some (.ptr 0 0 0 1), some (.i ((a0.getD x1_7.toNat api_Pair.z).Val)), some (.b false), some (.b false), some (.b false), some (.ptr 0 0 0 1), some (.i ((a0.getD x1_7.toNat api_Pair.z).Val)), some (.b false), some (.b false), some (.b false), some (.i x1_7), some (.b false), some (.b false), some (.tup []), some (.tup []), some (.tup []), some (.tup []), some (.tup []), some (.tup []), some (.tup []), some (.tup []), some (.tup []), some (.b false), some (.b false)] 6 ++ rest, [.box 47 [.i ((a0.getD x1_7.toNat api_Pair.z).Key), .i ((a0.getD x1_7.toNat api_Pair.z).Val)]]⟩) (fun R rest => by kernel_rfl) (fun R rest => by rw [decide_eq_false c4]; first | done | rfl))) (op_go hT fun R rest => by kernel_rfl)) (op_go hT fun R rest => by kernel_rfl)) (op_go hT fun R rest => by kernel_rfl)) (op_go hT fun R rest => by kernel_rfl)) (op_goE hT (st' := fun R rest => ⟨46, (23, .b (decide (((a0.getD x1_7.toNat api_Pair.z).Val) < (-1099511627776)))) :: needOf (opsAt (K22 [1, 0, 1, 0, 0, 1, 1, 0, 0, 1, 0])) [(0, .d (.sl t0 a0.length (vec api_Pair.e api_Pair.z a0))), (3, .i x1_7), (4, .ptr 0 0 0 0), (5, .d (.sl t0 a0.length (vec api_Pair.e api_Pair.z a0))), (6, .i (a0.length : Int)), (7, .i x1_7)] [some (.ptr 0 0 0 0), some (.i ((a0.getD x1_7.toNat api_Pair.z).Key)), some (.b false), some (.b false), some (.ptr 0 0 0 0), some (.i ((a0.getD x1_7.toNat api_Pair.z).Key)), some (.b false), some (.b false), some (.b false), some (.ptr 0 0 0 1), some (.i ((a0.getD x1_7.toNat api_Pair.z).Val)), some (.b false), some (.b false), some (.b false), some (.ptr 0 0 0 1), some (.i ((a0.getD x1_7.toNat api_Pair.z).Val)), some (.b false), some (.b false), some (.b false), some (.i x1_7), some (.b false), some (.b false), some (.tup []), some (.tup []), some (.tup []), some (.tup []), some (.tup []), some (.tup []), some (.tup []), some (.tup []), some (.tup []), some (.b false), some (.b false)] 11 ++ rest, [.box 47 [.i ((a0.getD x1_7.toNat api_Pair.z).Key), .i ((a0.getD x1_7.toNat api_Pair.z).Val)]]⟩) (fun R rest => by kernel_rfl) (fun R rest => by rw [decide_eq_false c5]; first | done | rfl))) (op_go hT fun R rest => by kernel_rfl)) (op_go hT fun R rest => by kernel_rfl)) (op_go hT fun R rest => by kernel_rfl)) (op_go hT fun R rest => by kernel_rfl)) (op_goE hT (st' := fun R rest => ⟨46, (28, .b (decide (((a0.getD x1_7.toNat api_Pair.z).Val) > 1099511627776))) :: needOf (opsAt (K22 [1, 0, 1, 0, 0, 1, 1, 0, 0, 1, 0])) [(0, .d (.sl t0 a0.length (vec api_Pair.e api_Pair.z a0))), (3, .i x1_7), (4, .ptr 0 0 0 0), (5, .d (.sl t0 a0.length (vec api_Pair.e api_Pair.z a0))), (6, .i (a0.length : Int)), (7, .i x1_7)] [some (.ptr 0 0 0 0), some (.i ((a0.getD x1_7.toNat api_Pair.z).Key)), some (.b false), some (.b false), some (.ptr 0 0 0 0), some (.i ((a0.getD x1_7.toNat api_Pair.z).Key)), some (.b false), some (.b false), some (.b false), some (.ptr 0 0 0 1), some (.i ((a0.getD x1_7.toNat api_Pair.z).Val)), some (.b false), some (.b false), some (.b false), some (.ptr 0 0 0 1), some (.i ((a0.getD x1_7.toNat api_Pair.z).Val)), some (.b false), some (.b false), some (.b false), some (.i x1_7), some (.b false), some (.b false), some (.tup []), some (.tup []), some (.tup []), some (.tup []), some (.tup []), some (.tup []), some (.tup []), some (.tup []), some (.tup []), some (.b false), some (.b false)] 16 ++ rest, [.box 47 [.i ((a0.getD x1_7.toNat api_Pair.z).Key), .i ((a0.getD x1_7.toNat api_Pair.z).Val)]]⟩) (fun R rest => by kernel_rfl) (fun R rest => by rw [decide_eq_false c6]; first | done | rfl))) (op_go hT fun R rest => by kernel_rfl)) (op_go hT fun R rest => by kernel_rfl)) (op_go hT fun R rest => by kernel_rfl)) (op_goE hT (st' := fun R rest => ⟨46, (32, .b (decide (x1_7 > 0))) :: needOf (opsAt (K22 [1, 0, 1, 0, 0, 1, 1, 0, 0, 1, 0])) [(0, .d (.sl t0 a0.length (vec api_Pair.e api_Pair.z a0))), (3, .i x1_7), (4, .ptr 0 0 0 0), (5, .d (.sl t0 a0.length (vec api_Pair.e api_Pair.z a0))), (6, .i (a0.length : Int)), (7, .i x1_7)] [some (.ptr 0 0 0 0), some (.i ((a0.getD x1_7.toNat api_Pair.z).Key)), some (.b false), some (.b false), some (.ptr 0 0 0 0), some (.i ((a0.getD x1_7.toNat api_Pair.z).Key)), some (.b false), some (.b false), some (.b false), some (.ptr 0 0 0 1), some (.i ((a0.getD x1_7.toNat api_Pair.z).Val)), some (.b false), some (.b false), some (.b false), some (.ptr 0 0 0 1), some (.i ((a0.getD x1_7.toNat api_Pair.z).Val)), some (.b false), some (.b false), some (.b false), some (.i x1_7), some (.b false), some (.b false), some (.tup []), some (.tup []), some (.tup []), some (.tup []), some (.tup []), some (.tup []), some (.tup []), some (.tup []), some (.tup []), some (.b false), some (.b false)] 20 ++ rest, [.box 47 [.i ((a0.getD x1_7.toNat api_Pair.z).Key), .i ((a0.getD x1_7.toNat api_Pair.z).Val)]]⟩) (fun R rest => by kernel_rfl) (fun R rest => by rw [decide_eq_false c7]; first | done | rfl))) (op_go hT fun R rest => by kernel_rfl)) (op_go hT fun R rest => by kernel_rfl)) (op_go hT fun R rest => by kernel_rfl)) (op_go hT fun R rest => by kernel_rfl)) (op_go hT fun R rest => by kernel_rfl)) (op_go hT fun R rest => by kernel_rfl)) (op_go hT fun R rest => by kernel_rfl)) (op_go hT fun R rest => by kernel_rfl)) (op_go hT fun R rest => by kernel_rfl)) (op_go hT fun R rest => by kernel_rfl)) (op_go hT fun R rest => by kernel_rfl)) (op_go hT fun R rest => by kernel_rfl)) ?_
                    refine go hT 1 [0, 5, 6, 7, 44] (k' := K22 [1, 0, 1, 0, 0, 1, 1, 0, 0, 1, 1]) (st' := ⟨46, [(0, .d (.sl t0 a0.length (vec api_Pair.e api_Pair.z a0))), (5, .d (.sl t0 a0.length (vec api_Pair.e api_Pair.z a0))), (6, .i (a0.length : Int)), (7, .i x1_7), (44, .b false)], [.box 47 [.i ((a0.getD x1_7.toNat api_Pair.z).Key), .i ((a0.getD x1_7.toNat api_Pair.z).Val)]]⟩) (by kernel_rfl) ?_
                    refine ak_cut [0, 5, 6, 7, 44] [] (st' := ⟨46, [(0, .d (.sl t0 a0.length (vec api_Pair.e api_Pair.z a0))), (5, .d (.sl t0 a0.length (vec api_Pair.e api_Pair.z a0))), (6, .i (a0.length : Int)), (7, .i x1_7), (44, .b false)], []⟩) (by kernel_rfl) (by kernel_rfl) rfl (by decide) (by rw [h0]; rfl) ?_
                    exact Jj1 false H
        · replace H := iteF (K := fun o => stk o (iter (table_Check.step a0) n)) c1 H
          rw [decide_eq_false c1]
          refine go hT 6 [2] (k' := K22 [1, 1, 1]) (st' := ⟨46, [(2, .b true)], []⟩) (by kernel_rfl) ?_
          obtain rfl := retC H
          exact ak_ret hf hX (av := .b true) (by kernel_rfl) [] (sel_of_eq (by kernel_rfl)) (by decide) (by rw [h0]; rfl) (by kernel_rfl) (fun _ h => all_nil h) (.d (.v _))
  refine ak_cut [0, 5, 6, 7] [] (st' := ⟨46, [(0, .d (.sl t0 a0.length (vec api_Pair.e api_Pair.z a0))), (5, .d (.sl t0 a0.length (vec api_Pair.e api_Pair.z a0))), (6, .i (a0.length : Int)), (7, .i 0)], []⟩) (by kernel_rfl) (by kernel_rfl) rfl (by decide) (by rw [h0]; rfl) ?_
  obtain ⟨n, H⟩ := loopC H
  exact (L n) 0 H


theorem slices_IndexFunc_api_Pair.says {t0 : Bool} {ff1 : FuncId} {cc1 : List DV} (a0 : List api_Pair) (p1 : api_Pair → Option Bool) (he1 : Sy.Enters Try.prog ff1) (hp1 : ∀ (z0 : api_Pair) r, p1 z0 = some r → Says Try.prog ff1 [] ([.d (.agg (api_Pair.e z0))] ++ List.map AV.d cc1) [] (.b r)) {r : Int} (H : slices_IndexFunc_api_Pair a0 p1 = some r) : Says Try.prog 106 [] [.d (.sl t0 a0.length (vec api_Pair.e api_Pair.z a0)), .d (.fn ff1 cc1)] [] (.i r) := by
  refine says_of Try.func106 rfl (nt := 19) rfl (Nat.le_of_ble_eq_true rfl) fun X hP h0 hX => ?_
  have hT : TabOk X.P T := hP ▸ tok
  have hf : X.P.funcs[106]? = some Try.f106 := hP ▸ Try.func106
  refine go hT 13 [0, 1, 7, 8] (k' := K106 [1, 0, 1, 0, 0]) (st' := ⟨19, [(0, .d (.sl t0 a0.length (vec api_Pair.e api_Pair.z a0))), (1, .d (.fn ff1 cc1)), (7, .i (a0.length : Int)), (8, .i 0)], []⟩) (by kernel_rfl) ?_
  have L : ∀ n, (∀ (x1_8 : Int), iter (slices_IndexFunc_api_Pair.step a0 p1) n (.l1 x1_8) = some r → AK X 106 (K106 [1, 0, 1, 0, 0]) (Back X [] (.i r)) ⟨19, [(0, .d (.sl t0 a0.length (vec api_Pair.e api_Pair.z a0))), (1, .d (.fn ff1 cc1)), (7, .i (a0.length : Int)), (8, .i x1_8)], []⟩) := by
    intro n
    induction n with
    | zero => exact fun _ H => iter0 H
    | succ n ih =>
      · intro x1_8 H
        refine go hT 5 [0, 1, 7, 8, 9] (k' := K106 [1, 0, 1, 0, 0, 1, 0]) (st' := ⟨19, [(0, .d (.sl t0 a0.length (vec api_Pair.e api_Pair.z a0))), (1, .d (.fn ff1 cc1)), (7, .i (a0.length : Int)), (8, .i x1_8), (9, .b (decide (x1_8 < (a0.length : Int))))], []⟩) (by kernel_rfl) ?_
        by_cases c1 : x1_8 < (a0.length : Int)
        · replace H := iteT (K := fun o => stk o (iter (slices_IndexFunc_api_Pair.step a0 p1) n)) c1 H
          rw [decide_eq_true c1]
          refine go hT 2 [0, 1, 7, 8] (k' := K106 [1, 0, 1, 0, 0, 1, 1]) (st' := ⟨19, [(0, .d (.sl t0 a0.length (vec api_Pair.e api_Pair.z a0))), (1, .d (.fn ff1 cc1)), (7, .i (a0.length : Int)), (8, .i x1_8)], []⟩) (by kernel_rfl) ?_
          refine go hT 12 [0, 1, 5, 7, 8, 11, 12, 13] (k' := K106 [1, 0, 1, 0, 0, 1, 1, 0, 0, 1, 0, 3]) (st' := ⟨19, [(0, .d (.sl t0 a0.length (vec api_Pair.e api_Pair.z a0))), (1, .d (.fn ff1 cc1)), (5, .i x1_8), (7, .i (a0.length : Int)), (8, .i x1_8), (11, .d (.fn ff1 cc1)), (12, .d (.sl t0 a0.length (vec api_Pair.e api_Pair.z a0))), (13, .i x1_8)], []⟩) (by kernel_rfl) ?_
          obtain ⟨h2, H⟩ := iteC (K := fun o => stk o (iter (slices_IndexFunc_api_Pair.step a0 p1) n)) rfl H
          refine ak_idx hT [0, 1, 5, 7, 8, 11, 14] (i := x1_8) (n := (a0.length : Int)) h2.1 h2.2 (k' := K106 [1, 0, 1, 0, 0, 1, 1, 0, 0, 1, 0, 4]) (st' := ⟨19, [(0, .d (.sl t0 a0.length (vec api_Pair.e api_Pair.z a0))), (1, .d (.fn ff1 cc1)), (5, .i x1_8), (7, .i (a0.length : Int)), (8, .i x1_8), (11, .d (.fn ff1 cc1)), (14, .d (.rop t0 a0.length (vec api_Pair.e api_Pair.z a0) x1_8.toNat 0))], []⟩) (by kernel_rfl) ?_
          refine go hT 1 [0, 1, 5, 7, 8, 11, 15] (k' := K106 [1, 0, 1, 0, 0, 1, 1, 0, 0, 1, 0, 5]) (st' := ⟨19, [(0, .d (.sl t0 a0.length (vec api_Pair.e api_Pair.z a0))), (1, .d (.fn ff1 cc1)), (5, .i x1_8), (7, .i (a0.length : Int)), (8, .i x1_8), (11, .d (.fn ff1 cc1)), (15, .d (.agg (api_Pair.e (a0.getD x1_8.toNat api_Pair.z))))], []⟩) (by kernel_rfl) ?_
          obtain ⟨v1, h3, H⟩ := bindC (K := fun o => stk o (iter (slices_IndexFunc_api_Pair.step a0 p1) n)) rfl H
          refine ak_callP (avs := [.d (.agg (api_Pair.e (a0.getD x1_8.toNat api_Pair.z)))] ++ List.map AV.d cc1) (dst := some 16) (k' := K106 [1, 0, 1, 0, 0, 1, 1, 0, 0, 1, 0, 6]) [0, 1, 5, 7, 8, 16] [] hP he1 (hp1 (a0.getD x1_8.toNat api_Pair.z) v1 h3) (by kernel_rfl) (hands_none _) (.cons (pass_d _) (passes_d _)) (st' := ⟨19, [(0, .d (.sl t0 a0.length (vec api_Pair.e api_Pair.z a0))), (1, .d (.fn ff1 cc1)), (5, .i x1_8), (7, .i (a0.length : Int)), (8, .i x1_8), (16, .b v1)], []⟩) (by kernel_rfl) ?_
          refine go hT 1 [0, 1, 5, 7, 8, 16] (k' := K106 [1, 0, 1, 0, 0, 1, 1, 0, 0, 1, 1]) (st' := ⟨19, [(0, .d (.sl t0 a0.length (vec api_Pair.e api_Pair.z a0))), (1, .d (.fn ff1 cc1)), (5, .i x1_8), (7, .i (a0.length : Int)), (8, .i x1_8), (16, .b v1)], []⟩) (by kernel_rfl) ?_
          by_cases c4 : v1 = true
          · replace H := iteT (K := fun o => stk o (iter (slices_IndexFunc_api_Pair.step a0 p1) n)) c4 H
            rw [c4]
            refine go hT 6 [4] (k' := K106 [1, 0, 1, 0, 0, 1, 1, 0, 0, 1, 1, 0, 1]) (st' := ⟨19, [(4, .i x1_8)], []⟩) (by kernel_rfl) ?_
            obtain rfl := retC H
            exact ak_ret hf hX (av := .i x1_8) (by kernel_rfl) [] (sel_of_eq (by kernel_rfl)) (by decide) (by rw [h0]; rfl) (by kernel_rfl) (fun _ h => all_nil h) (.d (.v _))
          · replace H := iteF (K := fun o => stk o (iter (slices_IndexFunc_api_Pair.step a0 p1) n)) c4 H
            rw [boF c4]
            refine go hT 3 [0, 1, 7, 8] (k' := K106 [1, 0, 1, 0, 0, 1, 1, 1]) (st' := ⟨19, [(0, .d (.sl t0 a0.length (vec api_Pair.e api_Pair.z a0))), (1, .d (.fn ff1 cc1)), (7, .i (a0.length : Int)), (8, .i x1_8)], []⟩) (by kernel_rfl) ?_
            refine go hT 5 [0, 1, 7, 8] (k' := K106 [1, 0, 1, 0, 0]) (st' := ⟨19, [(0, .d (.sl t0 a0.length (vec api_Pair.e api_Pair.z a0))), (1, .d (.fn ff1 cc1)), (7, .i (a0.length : Int)), (8, .i (IntKind.wrap .i64 (x1_8 + 1)))], []⟩) (by kernel_rfl) ?_
            refine ak_cut [0, 1, 7, 8] [] (st' := ⟨19, [(0, .d (.sl t0 a0.length (vec api_Pair.e api_Pair.z a0))), (1, .d (.fn ff1 cc1)), (7, .i (a0.length : Int)), (8, .i (IntKind.wrap .i64 (x1_8 + 1)))], []⟩) (by kernel_rfl) (by kernel_rfl) rfl (by decide) (by rw [h0]; rfl) ?_
            exact ih (IntKind.wrap .i64 (x1_8 + 1)) H
        · replace H := iteF (K := fun o => stk o (iter (slices_IndexFunc_api_Pair.step a0 p1) n)) c1 H
          rw [decide_eq_false c1]
          refine go hT 6 [4] (k' := K106 [1, 1, 1]) (st' := ⟨19, [(4, .i (-1))], []⟩) (by kernel_rfl) ?_
          obtain rfl := retC H
          exact ak_ret hf hX (av := .i (-1)) (by kernel_rfl) [] (sel_of_eq (by kernel_rfl)) (by decide) (by rw [h0]; rfl) (by kernel_rfl) (fun _ h => all_nil h) (.d (.v _))
  refine ak_cut [0, 1, 7, 8] [] (st' := ⟨19, [(0, .d (.sl t0 a0.length (vec api_Pair.e api_Pair.z a0))), (1, .d (.fn ff1 cc1)), (7, .i (a0.length : Int)), (8, .i 0)], []⟩) (by kernel_rfl) (by kernel_rfl) rfl (by decide) (by rw [h0]; rfl) ?_
  obtain ⟨n, H⟩ := loopC H
  exact (L n) 0 H


theorem slices_ContainsFunc_api_Pair.says {t0 : Bool} {ff1 : FuncId} {cc1 : List DV} (a0 : List api_Pair) (p1 : api_Pair → Option Bool) (he1 : Sy.Enters Try.prog ff1) (hp1 : ∀ (z0 : api_Pair) r, p1 z0 = some r → Says Try.prog ff1 [] ([.d (.agg (api_Pair.e z0))] ++ List.map AV.d cc1) [] (.b r)) {r : Bool} (H : slices_ContainsFunc_api_Pair a0 p1 = some r) : Says Try.prog 111 [] [.d (.sl t0 a0.length (vec api_Pair.e api_Pair.z a0)), .d (.fn ff1 cc1)] [] (.b r) := by
  refine says_of Try.func111 rfl (nt := 9) rfl (Nat.le_of_ble_eq_true rfl) fun X hP h0 hX => ?_
  have hT : TabOk X.P T := hP ▸ tok
  have hf : X.P.funcs[111]? = some Try.f111 := hP ▸ Try.func111
  refine go hT 8 [5, 6] (k' := K111 [1, 0, 2]) (st' := ⟨9, [(5, .d (.sl t0 a0.length (vec api_Pair.e api_Pair.z a0))), (6, .d (.fn ff1 cc1))], []⟩) (by kernel_rfl) ?_
  obtain ⟨v1, h1, H⟩ := bindC (K := fun o => o) rfl H
  refine ak_callP (avs := [.d (.sl t0 a0.length (vec api_Pair.e api_Pair.z a0)), .d (.fn ff1 cc1)]) (dst := some 7) (k' := K111 [1, 0, 3]) [7] [] hP enters_106 (slices_IndexFunc_api_Pair.says (t0 := t0) (ff1 := ff1) (cc1 := cc1) a0 p1 he1 hp1 h1) (by kernel_rfl) (hands_none _) (.cons (pass_d _) (.cons (pass_d _) .nil)) (st' := ⟨9, [(7, .i v1)], []⟩) (by kernel_rfl) ?_
  refine go hT 3 [4] (k' := K111 [1, 1]) (st' := ⟨9, [(4, .b (decide (v1 ≥ 0)))], []⟩) (by kernel_rfl) ?_
  obtain rfl := retC H
  exact ak_ret hf hX (av := .b (decide (v1 ≥ 0))) (by kernel_rfl) [] (sel_of_eq (by kernel_rfl)) (by decide) (by rw [h0]; rfl) (by kernel_rfl) (fun _ h => all_nil h) (.d (.v _))


theorem mut_value.says (a0 : Int) : Says Try.prog 90 [] [.i a0] [] (.b (mut_value a0)) := by
  obtain ⟨r, H⟩ : ∃ r, mut_value a0 = r := ⟨_, rfl⟩
  rw [H]
  refine says_of Try.func90 rfl (nt := 9) rfl (Nat.le_of_ble_eq_true rfl) fun X hP h0 hX => ?_
  have hT : TabOk X.P T := hP ▸ tok
  have hf : X.P.funcs[90]? = some Try.f90 := hP ▸ Try.func90
  have Jj1 : ∀ (y1_2 : Bool), (mut_value.j1 y1_2) = r → AK X 90 (K90 [1, 1]) (Back X [] (.b r)) ⟨9, [(2, .b y1_2)], []⟩ := by
    intro y1_2 H
    obtain rfl := H
    exact ak_ret hf hX (av := .b y1_2) (by kernel_rfl) [] (sel_of_eq (by kernel_rfl)) (by decide) (by rw [h0]; rfl) (by kernel_rfl) (fun _ h => all_nil h) (.d (.v _))
  refine go hT 9 [0, 5] (k' := K90 [1, 0, 3]) (st' := ⟨9, [(0, .i a0), (5, .b (decide (a0 ≥ (-1099511627776))))], []⟩) (by kernel_rfl) ?_
  by_cases c1 : a0 ≥ (-1099511627776)
  · replace H := iteT (K := fun o => o) c1 H
    rw [decide_eq_true c1]
    refine go hT 5 [2] (k' := K90 [1, 1]) (st' := ⟨9, [(2, .b (decide (a0 ≤ 1099511627776)))], []⟩) (by kernel_rfl) ?_
    refine ak_cut [2] [] (st' := ⟨9, [(2, .b (decide (a0 ≤ 1099511627776)))], []⟩) (by kernel_rfl) (by kernel_rfl) rfl (by decide) (by rw [h0]; rfl) ?_
    exact Jj1 (decide (a0 ≤ 1099511627776)) H
  · replace H := iteF (K := fun o => o) c1 H
    rw [decide_eq_false c1]
    refine go hT 5 [2] (k' := K90 [1, 1]) (st' := ⟨9, [(2, .b false)], []⟩) (by kernel_rfl) ?_
    refine ak_cut [2] [] (st' := ⟨9, [(2, .b false)], []⟩) (by kernel_rfl) (by kernel_rfl) rfl (by decide) (by rw [h0]; rfl) ?_
    exact Jj1 false H


theorem mut_pair.says (a0 : api_Pair) : Says Try.prog 113 [] [.d (.agg (api_Pair.e a0))] [] (.b (mut_pair a0)) := by
  obtain ⟨r, H⟩ : ∃ r, mut_pair a0 = r := ⟨_, rfl⟩
  rw [H]
  refine says_of Try.func113 rfl (nt := 16) rfl (Nat.le_of_ble_eq_true rfl) fun X hP h0 hX => ?_
  have hT : TabOk X.P T := hP ▸ tok
  have hf : X.P.funcs[113]? = some Try.f113 := hP ▸ Try.func113
  have Jj1 : ∀ (y1_2 : Bool), (mut_pair.j1 y1_2) = r → AK X 113 (K113 [1, 1]) (Back X [] (.b r)) ⟨16, [(2, .b y1_2)], []⟩ := by
    intro y1_2 H
    obtain rfl := H
    exact ak_ret hf hX (av := .b y1_2) (by kernel_rfl) [] (sel_of_eq (by kernel_rfl)) (by decide) (by rw [h0]; rfl) (by kernel_rfl) (fun _ h => all_nil h) (.d (.v _))
  refine go hT 11 [1, 6] (k' := K113 [1, 0, 4]) (st' := ⟨16, [(1, .ptr 0 0 0 0), (6, .b (decide (a0.Key ≥ 0)))], [.box 47 [.i a0.Key, .i a0.Val]]⟩) (by kernel_rfl) ?_
  by_cases c1 : a0.Key ≥ 0
  · replace H := iteT (K := fun o => o) c1 H
    rw [decide_eq_true c1]
    refine go hT 5 [1, 11] (k' := K113 [1, 0, 9]) (st' := ⟨16, [(1, .ptr 0 0 0 0), (11, .b (decide (a0.Key < 4096)))], [.box 47 [.i a0.Key, .i a0.Val]]⟩) (by kernel_rfl) ?_
    by_cases c2 : a0.Key < 4096
    · replace H := iteT (K := fun o => o) c2 H
      rw [decide_eq_true c2]
      refine go hT 2 [11, 13] (k' := K113 [1, 0, 11]) (st' := ⟨16, [(11, .b true), (13, .i a0.Val)], [.box 47 [.i a0.Key, .i a0.Val]]⟩) (by kernel_rfl) ?_
      refine ak_callP (avs := [.i a0.Val]) (dst := some 14) (k' := K113 [1, 0, 12]) [11, 14] [] hP enters_90 (mut_value.says a0.Val) (by kernel_rfl) (hands_none _) (.cons (pass_d _) .nil) (st' := ⟨16, [(11, .b true), (14, .b (mut_value a0.Val))], [.box 47 [.i a0.Key, .i a0.Val]]⟩) (by kernel_rfl) ?_
      refine go hT 3 [2] (k' := K113 [1, 1]) (st' := ⟨16, [(2, .b (mut_value a0.Val))], [.box 47 [.i a0.Key, .i a0.Val]]⟩) (by kernel_rfl) ?_
      refine ak_cut [2] [] (st' := ⟨16, [(2, .b (mut_value a0.Val))], []⟩) (by kernel_rfl) (by kernel_rfl) rfl (by decide) (by rw [h0]; rfl) ?_
      exact Jj1 (mut_value a0.Val) H
    · replace H := iteF (K := fun o => o) c2 H
      rw [decide_eq_false c2]
      refine go hT 6 [2] (k' := K113 [1, 1]) (st' := ⟨16, [(2, .b false)], [.box 47 [.i a0.Key, .i a0.Val]]⟩) (by kernel_rfl) ?_
      refine ak_cut [2] [] (st' := ⟨16, [(2, .b false)], []⟩) (by kernel_rfl) (by kernel_rfl) rfl (by decide) (by rw [h0]; rfl) ?_
      exact Jj1 false H
  · replace H := iteF (K := fun o => o) c1 H
    rw [decide_eq_false c1]
    refine go hT 11 [2] (k' := K113 [1, 1]) (st' := ⟨16, [(2, .b false)], [.box 47 [.i a0.Key, .i a0.Val]]⟩) (by kernel_rfl) ?_
    refine ak_cut [2] [] (st' := ⟨16, [(2, .b false)], []⟩) (by kernel_rfl) (by kernel_rfl) rfl (by decide) (by rw [h0]; rfl) ?_
    exact Jj1 false H


theorem mut_pairs_1.says (a0 : api_Pair) : Says Try.prog 112 [] [.d (.agg (api_Pair.e a0))] [] (.b (mut_pairs_1 a0)) := by
  obtain ⟨r, H⟩ : ∃ r, mut_pairs_1 a0 = r := ⟨_, rfl⟩
  rw [H]
  refine says_of Try.func112 rfl (nt := 6) rfl (Nat.le_of_ble_eq_true rfl) fun X hP h0 hX => ?_
  have hT : TabOk X.P T := hP ▸ tok
  have hf : X.P.funcs[112]? = some Try.f112 := hP ▸ Try.func112
  refine go hT 8 [3] (k' := K112 [1, 0, 1]) (st' := ⟨6, [(3, .d (.agg [.v (.int .i64 a0.Key), .v (.int .i64 a0.Val)]))], [.box 47 [.i a0.Key, .i a0.Val]]⟩) (by kernel_rfl) ?_
  refine ak_callP (avs := [.d (.agg [.v (.int .i64 a0.Key), .v (.int .i64 a0.Val)])]) (dst := some 4) (k' := K112 [1, 0, 2]) [4] [] hP enters_113 (mut_pair.says a0) (by kernel_rfl) (hands_none _) (.cons (pass_d _) .nil) (st' := ⟨6, [(4, .b (mut_pair a0))], [.box 47 [.i a0.Key, .i a0.Val]]⟩) (by kernel_rfl) ?_
  refine go hT 3 [2] (k' := K112 [1, 1]) (st' := ⟨6, [(2, .b (!(mut_pair a0)))], [.box 47 [.i a0.Key, .i a0.Val]]⟩) (by kernel_rfl) ?_
  obtain rfl := H
  exact ak_ret hf hX (av := .b (!(mut_pair a0))) (by kernel_rfl) [] (sel_of_eq (by kernel_rfl)) (by decide) (by rw [h0]; rfl) (by kernel_rfl) (fun _ h => all_nil h) (.d (.v _))


theorem mut_pairs.says (a0 : api_Mut) (a1 : Int) (a2 : Int) {r : Bool} (H : mut_pairs a0 a1 a2 = some r) : Says Try.prog 88 [] [.d (.agg (api_Mut.e a0)), .i a1, .i a2] [] (.b r) := by
  refine says_of Try.func88 rfl (nt := 25) rfl (Nat.le_of_ble_eq_true rfl) fun X hP h0 hX => ?_
  have hT : TabOk X.P T := hP ▸ tok
  have hf : X.P.funcs[88]? = some Try.f88 := hP ▸ Try.func88
  have Jj1 : ∀ (y1_6 : Bool), (mut_pairs.j1 y1_6) = some r → AK X 88 (K88 [1, 1]) (Back X [] (.b r)) ⟨25, [(6, .b y1_6)], []⟩ := by
    intro y1_6 H
    obtain rfl := retC H
    exact ak_ret hf hX (av := .b y1_6) (by kernel_rfl) [] (sel_of_eq (by kernel_rfl)) (by decide) (by rw [h0]; rfl) (by kernel_rfl) (fun _ h => all_nil h) (.d (.v _))
  refine go hT 13 [2, 3, 12] (k' := K88 [1, 0, 6]) (st' := ⟨25, [(2, .i a2), (3, .ptr 0 0 0 0), (12, .b (decide ((a0.Pairs.length : Int) ≥ a1)))], [.box 26 [.i a0.Client, .i a0.Seq, .i a0.Kind, .d (.sl true a0.Pairs.length (vec api_Pair.e api_Pair.z a0.Pairs)), .i a0.Over.Lo, .i a0.Over.Hi, .i a0.Old]]⟩) (by kernel_rfl) ?_
  by_cases c1 : (a0.Pairs.length : Int) ≥ a1
  · replace H := iteT (K := fun o => o) c1 H
    rw [decide_eq_true c1]
    refine go hT 7 [3, 19] (k' := K88 [1, 0, 13]) (st' := ⟨25, [(3, .ptr 0 0 0 0), (19, .b (decide ((a0.Pairs.length : Int) ≤ a2)))], [.box 26 [.i a0.Client, .i a0.Seq, .i a0.Kind, .d (.sl true a0.Pairs.length (vec api_Pair.e api_Pair.z a0.Pairs)), .i a0.Over.Lo, .i a0.Over.Hi, .i a0.Old]]⟩) (by kernel_rfl) ?_
    by_cases c2 : (a0.Pairs.length : Int) ≤ a2
    · replace H := iteT (K := fun o => o) c2 H
      rw [decide_eq_true c2]
      refine go hT 2 [19, 21] (k' := K88 [1, 0, 15]) (st' := ⟨25, [(19, .b true), (21, .d (.sl true a0.Pairs.length (vec api_Pair.e api_Pair.z a0.Pairs)))], [.box 26 [.i a0.Client, .i a0.Seq, .i a0.Kind, .d (.sl true a0.Pairs.length (vec api_Pair.e api_Pair.z a0.Pairs)), .i a0.Over.Lo, .i a0.Over.Hi, .i a0.Old]]⟩) (by kernel_rfl) ?_
      obtain ⟨v1, h3, H⟩ := bindC (K := fun o => o) rfl H
      refine ak_callP (avs := [.d (.sl true a0.Pairs.length (vec api_Pair.e api_Pair.z a0.Pairs)), .d (.fn 112 [])]) (dst := some 22) (k' := K88 [1, 0, 16]) [19, 22] [] hP enters_111 (slices_ContainsFunc_api_Pair.says (t0 := true) (ff1 := 112) (cc1 := []) a0.Pairs (fun z0 => some (mut_pairs_1 z0)) enters_112 (fun z0 r h => by obtain rfl := retC h; exact mut_pairs_1.says z0) h3) (by kernel_rfl) (hands_none _) (.cons (pass_d _) (.cons (pass_d _) .nil)) (st' := ⟨25, [(19, .b true), (22, .b v1)], [.box 26 [.i a0.Client, .i a0.Seq, .i a0.Kind, .d (.sl true a0.Pairs.length (vec api_Pair.e api_Pair.z a0.Pairs)), .i a0.Over.Lo, .i a0.Over.Hi, .i a0.Old]]⟩) (by kernel_rfl) ?_
      refine go hT 4 [6] (k' := K88 [1, 1]) (st' := ⟨25, [(6, .b (!v1))], [.box 26 [.i a0.Client, .i a0.Seq, .i a0.Kind, .d (.sl true a0.Pairs.length (vec api_Pair.e api_Pair.z a0.Pairs)), .i a0.Over.Lo, .i a0.Over.Hi, .i a0.Old]]⟩) (by kernel_rfl) ?_
      refine ak_cut [6] [] (st' := ⟨25, [(6, .b (!v1))], []⟩) (by kernel_rfl) (by kernel_rfl) rfl (by decide) (by rw [h0]; rfl) ?_
      exact Jj1 (!v1) H
    · replace H := iteF (K := fun o => o) c2 H
      rw [decide_eq_false c2]
      refine go hT 7 [6] (k' := K88 [1, 1]) (st' := ⟨25, [(6, .b false)], [.box 26 [.i a0.Client, .i a0.Seq, .i a0.Kind, .d (.sl true a0.Pairs.length (vec api_Pair.e api_Pair.z a0.Pairs)), .i a0.Over.Lo, .i a0.Over.Hi, .i a0.Old]]⟩) (by kernel_rfl) ?_
      refine ak_cut [6] [] (st' := ⟨25, [(6, .b false)], []⟩) (by kernel_rfl) (by kernel_rfl) rfl (by decide) (by rw [h0]; rfl) ?_
      exact Jj1 false H
  · replace H := iteF (K := fun o => o) c1 H
    rw [decide_eq_false c1]
    refine go hT 14 [6] (k' := K88 [1, 1]) (st' := ⟨25, [(6, .b false)], [.box 26 [.i a0.Client, .i a0.Seq, .i a0.Kind, .d (.sl true a0.Pairs.length (vec api_Pair.e api_Pair.z a0.Pairs)), .i a0.Over.Lo, .i a0.Over.Hi, .i a0.Old]]⟩) (by kernel_rfl) ?_
    refine ak_cut [6] [] (st' := ⟨25, [(6, .b false)], []⟩) (by kernel_rfl) (by kernel_rfl) rfl (by decide) (by rw [h0]; rfl) ?_
    exact Jj1 false H


theorem mut_rising.says {t0 : Bool} (a0 : List api_Pair) {r : Bool} (H : mut_rising a0 = some r) : Says Try.prog 89 [] [.d (.sl t0 a0.length (vec api_Pair.e api_Pair.z a0))] [] (.b r) := by
  refine says_of Try.func89 rfl (nt := 22) rfl (Nat.le_of_ble_eq_true rfl) fun X hP h0 hX => ?_
  have hT : TabOk X.P T := hP ▸ tok
  have hf : X.P.funcs[89]? = some Try.f89 := hP ▸ Try.func89
  refine go hT 11 [0, 3] (k' := K89 [1, 0, 1, 0, 0]) (st' := ⟨22, [(0, .d (.sl t0 a0.length (vec api_Pair.e api_Pair.z a0))), (3, .i 1)], []⟩) (by kernel_rfl) ?_
  have L : ∀ n, (∀ (x1_3 : Int), iter (mut_rising.step a0) n (.l1 x1_3) = some r → AK X 89 (K89 [1, 0, 1, 0, 0]) (Back X [] (.b r)) ⟨22, [(0, .d (.sl t0 a0.length (vec api_Pair.e api_Pair.z a0))), (3, .i x1_3)], []⟩) := by
    intro n
    induction n with
    | zero => exact fun _ H => iter0 H
    | succ n ih =>
      · intro x1_3 H
        refine go hT 8 [0, 3, 7] (k' := K89 [1, 0, 1, 0, 0, 0, 1]) (st' := ⟨22, [(0, .d (.sl t0 a0.length (vec api_Pair.e api_Pair.z a0))), (3, .i x1_3), (7, .b (decide (x1_3 < (a0.length : Int))))], []⟩) (by kernel_rfl) ?_
        by_cases c1 : x1_3 < (a0.length : Int)
        · replace H := iteT (K := fun o => stk o (iter (mut_rising.step a0) n)) c1 H
          rw [decide_eq_true c1]
          refine go hT 2 [0, 3] (k' := K89 [1, 0, 1, 0, 0, 1]) (st' := ⟨22, [(0, .d (.sl t0 a0.length (vec api_Pair.e api_Pair.z a0))), (3, .i x1_3)], []⟩) (by kernel_rfl) ?_
          refine go hT 3 [0, 3] (k' := K89 [1, 0, 1, 0, 0, 1, 0, 0, 0]) (st' := ⟨22, [(0, .d (.sl t0 a0.length (vec api_Pair.e api_Pair.z a0))), (3, .i x1_3)], []⟩) (by kernel_rfl) ?_
          obtain ⟨h2, H⟩ := iteC (K := fun o => stk o (iter (mut_rising.step a0) n)) rfl H
          obtain ⟨h3, H⟩ := iteC (K := fun o => stk o (iter (mut_rising.step a0) n)) rfl H
          refine ak_drawAt (nt := 22) (rows := []) (hP ▸ mixed) 12 [0, 3] [(0, .d (.sl t0 a0.length (vec api_Pair.e api_Pair.z a0))), (3, .i x1_3)] [some (.d (.sl t0 a0.length (vec api_Pair.e api_Pair.z a0))), some (.i x1_3), some (.i (IntKind.wrap .i64 (x1_3 - 1))), some (.d (.rop t0 a0.length (vec api_Pair.e api_Pair.z a0) ((IntKind.wrap .i64 (x1_3 - 1)).toNat) 0)), some (.d (.rop t0 a0.length (vec api_Pair.e api_Pair.z a0) ((IntKind.wrap .i64 (x1_3 - 1)).toNat) 0)), some (.i ((a0.getD ((IntKind.wrap .i64 (x1_3 - 1)).toNat) api_Pair.z).Key)), some (.d (.sl t0 a0.length (vec api_Pair.e api_Pair.z a0))), some (.i x1_3), some (.d (.rop t0 a0.length (vec api_Pair.e api_Pair.z a0) x1_3.toNat 0)), some (.d (.rop t0 a0.length (vec api_Pair.e api_Pair.z a0) x1_3.toNat 0)), some (.i ((a0.getD x1_3.toNat api_Pair.z).Key)), some (.b (decide (((a0.getD ((IntKind.wrap .i64 (x1_3 - 1)).toNat) api_Pair.z).Key) ≥ ((a0.getD x1_3.toNat api_Pair.z).Key))))] (by kernel_rfl) (by kernel_rfl) (by kernel_rfl) (opS (opS (opS (opS (opS (opS (opS (opS (opS (opS (opS (opS op0 (op_go hT fun R rest => by kernel_rfl)) (op_go hT fun R rest => by kernel_rfl)) (op_go hT fun R rest => by kernel_rfl)) (fun R rest h => ak_idx0 hT (i := IntKind.wrap .i64 (x1_3 - 1)) (n := (a0.length : Int)) h2.1 h2.2 (by kernel_rfl) h)) (op_go hT fun R rest => by kernel_rfl)) (op_go hT fun R rest => by kernel_rfl)) (op_go hT fun R rest => by kernel_rfl)) (op_go hT fun R rest => by kernel_rfl)) (fun R rest h => ak_idx0 hT (i := x1_3) (n := (a0.length : Int)) h3.1 h3.2 (by kernel_rfl) h)) (op_go hT fun R rest => by kernel_rfl)) (op_go hT fun R rest => by kernel_rfl)) (op_go hT fun R rest => by kernel_rfl)) ?_
          refine go hT 1 [0, 3, 21] (k' := K89 [1, 0, 1, 0, 0, 1, 0, 0, 1]) (st' := ⟨22, [(0, .d (.sl t0 a0.length (vec api_Pair.e api_Pair.z a0))), (3, .i x1_3), (21, .b (decide (((a0.getD ((IntKind.wrap .i64 (x1_3 - 1)).toNat) api_Pair.z).Key) ≥ ((a0.getD x1_3.toNat api_Pair.z).Key))))], []⟩) (by kernel_rfl) ?_
          by_cases c4 : ((a0.getD ((IntKind.wrap .i64 (x1_3 - 1)).toNat) api_Pair.z).Key) ≥ ((a0.getD x1_3.toNat api_Pair.z).Key)
          · replace H := iteT (K := fun o => stk o (iter (mut_rising.step a0) n)) c4 H
            rw [decide_eq_true c4]
            refine go hT 5 [2] (k' := K89 [1, 0, 1, 0, 0, 1, 0, 0, 1, 0, 1]) (st' := ⟨22, [(2, .b false)], []⟩) (by kernel_rfl) ?_
            obtain rfl := retC H
            exact ak_ret hf hX (av := .b false) (by kernel_rfl) [] (sel_of_eq (by kernel_rfl)) (by decide) (by rw [h0]; rfl) (by kernel_rfl) (fun _ h => all_nil h) (.d (.v _))
          · replace H := iteF (K := fun o => stk o (iter (mut_rising.step a0) n)) c4 H
            rw [decide_eq_false c4]
            refine go hT 3 [0, 3] (k' := K89 [1, 0, 1, 0, 0, 1, 1]) (st' := ⟨22, [(0, .d (.sl t0 a0.length (vec api_Pair.e api_Pair.z a0))), (3, .i x1_3)], []⟩) (by kernel_rfl) ?_
            refine go hT 6 [0, 3] (k' := K89 [1, 0, 1, 0, 0]) (st' := ⟨22, [(0, .d (.sl t0 a0.length (vec api_Pair.e api_Pair.z a0))), (3, .i (IntKind.wrap .i64 (x1_3 + 1)))], []⟩) (by kernel_rfl) ?_
            refine ak_cut [0, 3] [] (st' := ⟨22, [(0, .d (.sl t0 a0.length (vec api_Pair.e api_Pair.z a0))), (3, .i (IntKind.wrap .i64 (x1_3 + 1)))], []⟩) (by kernel_rfl) (by kernel_rfl) rfl (by decide) (by rw [h0]; rfl) ?_
            exact ih (IntKind.wrap .i64 (x1_3 + 1)) H
        · replace H := iteF (K := fun o => stk o (iter (mut_rising.step a0) n)) c1 H
          rw [decide_eq_false c1]
          refine go hT 6 [2] (k' := K89 [1, 1, 1]) (st' := ⟨22, [(2, .b true)], []⟩) (by kernel_rfl) ?_
          obtain rfl := retC H
          exact ak_ret hf hX (av := .b true) (by kernel_rfl) [] (sel_of_eq (by kernel_rfl)) (by decide) (by rw [h0]; rfl) (by kernel_rfl) (fun _ h => all_nil h) (.d (.v _))
  refine ak_cut [0, 3] [] (st' := ⟨22, [(0, .d (.sl t0 a0.length (vec api_Pair.e api_Pair.z a0))), (3, .i 1)], []⟩) (by kernel_rfl) (by kernel_rfl) rfl (by decide) (by rw [h0]; rfl) ?_
  obtain ⟨n, H⟩ := loopC H
  exact (L n) 1 H


theorem span_One.says (a0 : api_Span) : Says Try.prog 56 [] [.d (.agg (api_Span.e a0))] [] (.b (span_One a0)) := by
  obtain ⟨r, H⟩ : ∃ r, span_One a0 = r := ⟨_, rfl⟩
  rw [H]
  refine says_of Try.func56 rfl (nt := 18) rfl (Nat.le_of_ble_eq_true rfl) fun X hP h0 hX => ?_
  have hT : TabOk X.P T := hP ▸ tok
  have hf : X.P.funcs[56]? = some Try.f56 := hP ▸ Try.func56
  have Jj1 : ∀ (y1_2 : Bool), (span_One.j1 y1_2) = r → AK X 56 (K56 [1, 1]) (Back X [] (.b r)) ⟨18, [(2, .b y1_2)], []⟩ := by
    intro y1_2 H
    obtain rfl := H
    exact ak_ret hf hX (av := .b y1_2) (by kernel_rfl) [] (sel_of_eq (by kernel_rfl)) (by decide) (by rw [h0]; rfl) (by kernel_rfl) (fun _ h => all_nil h) (.d (.v _))
  refine go hT 11 [1, 6] (k' := K56 [1, 0, 4]) (st' := ⟨18, [(1, .ptr 0 0 0 0), (6, .b (decide (a0.Lo ≥ 0)))], [.box 24 [.i a0.Lo, .i a0.Hi]]⟩) (by kernel_rfl) ?_
  by_cases c1 : a0.Lo ≥ 0
  · replace H := iteT (K := fun o => o) c1 H
    rw [decide_eq_true c1]
    refine go hT 7 [1, 13] (k' := K56 [1, 0, 11]) (st' := ⟨18, [(1, .ptr 0 0 0 0), (13, .b (decide (a0.Lo < a0.Hi)))], [.box 24 [.i a0.Lo, .i a0.Hi]]⟩) (by kernel_rfl) ?_
    by_cases c2 : a0.Lo < a0.Hi
    · replace H := iteT (K := fun o => o) c2 H
      rw [decide_eq_true c2]
      refine go hT 6 [2] (k' := K56 [1, 1]) (st' := ⟨18, [(2, .b (decide (a0.Hi ≤ 4096)))], [.box 24 [.i a0.Lo, .i a0.Hi]]⟩) (by kernel_rfl) ?_
      refine ak_cut [2] [] (st' := ⟨18, [(2, .b (decide (a0.Hi ≤ 4096)))], []⟩) (by kernel_rfl) (by kernel_rfl) rfl (by decide) (by rw [h0]; rfl) ?_
      exact Jj1 (decide (a0.Hi ≤ 4096)) H
    · replace H := iteF (K := fun o => o) c2 H
      rw [decide_eq_false c2]
      refine go hT 6 [2] (k' := K56 [1, 1]) (st' := ⟨18, [(2, .b false)], [.box 24 [.i a0.Lo, .i a0.Hi]]⟩) (by kernel_rfl) ?_
      refine ak_cut [2] [] (st' := ⟨18, [(2, .b false)], []⟩) (by kernel_rfl) (by kernel_rfl) rfl (by decide) (by rw [h0]; rfl) ?_
      exact Jj1 false H
  · replace H := iteF (K := fun o => o) c1 H
    rw [decide_eq_false c1]
    refine go hT 13 [2] (k' := K56 [1, 1]) (st' := ⟨18, [(2, .b false)], [.box 24 [.i a0.Lo, .i a0.Hi]]⟩) (by kernel_rfl) ?_
    refine ak_cut [2] [] (st' := ⟨18, [(2, .b false)], []⟩) (by kernel_rfl) (by kernel_rfl) rfl (by decide) (by rw [h0]; rfl) ?_
    exact Jj1 false H


theorem mut_kind.says (a0 : api_Mut) {r : Bool} (H : mut_kind a0 = some r) : Says Try.prog 52 [] [.d (.agg (api_Mut.e a0))] [] (.b r) := by
  refine says_of Try.func52 rfl (nt := 102) rfl (Nat.le_of_ble_eq_true rfl) fun X hP h0 hX => ?_
  have hT : TabOk X.P T := hP ▸ tok
  have hf : X.P.funcs[52]? = some Try.f52 := hP ▸ Try.func52
  have Jj1 : ∀ (y1_23 : Bool), (mut_kind.j1 a0 y1_23) = some r → AK X 52 (K52 [1, 1, 0, 1]) (Back X [] (.b r)) ⟨102, [(1, .ptr 0 0 0 0), (23, .b y1_23)], [.box 26 [.i a0.Client, .i a0.Seq, .i a0.Kind, .d (.sl true a0.Pairs.length (vec api_Pair.e api_Pair.z a0.Pairs)), .i a0.Over.Lo, .i a0.Over.Hi, .i a0.Old]]⟩ := by
    intro y1_23 H
    by_cases c7 : y1_23 = true
    · replace H := iteT (K := fun o => o) c7 H
      rw [c7]
      refine go hT 5 [2] (k' := K52 [1, 1, 0, 1, 0, 1]) (st' := ⟨102, [(2, .b false)], [.box 26 [.i a0.Client, .i a0.Seq, .i a0.Kind, .d (.sl true a0.Pairs.length (vec api_Pair.e api_Pair.z a0.Pairs)), .i a0.Over.Lo, .i a0.Over.Hi, .i a0.Old]]⟩) (by kernel_rfl) ?_
      obtain rfl := retC H
      exact ak_ret hf hX (av := .b false) (by kernel_rfl) [] (sel_of_eq (by kernel_rfl)) (by decide) (by rw [h0]; rfl) (by kernel_rfl) (fun _ h => all_nil h) (.d (.v _))
    · replace H := iteF (K := fun o => o) c7 H
      rw [boF c7]
      refine go hT 2 [1] (k' := K52 [1, 1, 1]) (st' := ⟨102, [(1, .ptr 0 0 0 0)], [.box 26 [.i a0.Client, .i a0.Seq, .i a0.Kind, .d (.sl true a0.Pairs.length (vec api_Pair.e api_Pair.z a0.Pairs)), .i a0.Over.Lo, .i a0.Over.Hi, .i a0.Old]]⟩) (by kernel_rfl) ?_
      refine go hT 12 [1, 25, 26] (k' := K52 [1, 1, 1, 0, 1, 0, 1]) (st' := ⟨102, [(1, .ptr 0 0 0 0), (25, .i a0.Kind), (26, .b (a0.Kind == 1))], [.box 26 [.i a0.Client, .i a0.Seq, .i a0.Kind, .d (.sl true a0.Pairs.length (vec api_Pair.e api_Pair.z a0.Pairs)), .i a0.Over.Lo, .i a0.Over.Hi, .i a0.Old]]⟩) (by kernel_rfl) ?_
      by_cases c8 : a0.Kind = 1
      · replace H := iteT (K := fun o => o) c8 H
        rw [eqT c8]
        refine go hT 4 [1, 28] (k' := K52 [1, 1, 1, 0, 1, 0, 1, 0, 0, 1]) (st' := ⟨102, [(1, .ptr 0 0 0 0), (28, .d (.agg [.v (.int .i64 a0.Client), .v (.int .i64 a0.Seq), .v (.int .i64 a0.Kind), .sl true a0.Pairs.length (vec api_Pair.e api_Pair.z a0.Pairs), .v (.int .i64 a0.Over.Lo), .v (.int .i64 a0.Over.Hi), .v (.int .i64 a0.Old)]))], [.box 26 [.i a0.Client, .i a0.Seq, .i a0.Kind, .d (.sl true a0.Pairs.length (vec api_Pair.e api_Pair.z a0.Pairs)), .i a0.Over.Lo, .i a0.Over.Hi, .i a0.Old]]⟩) (by kernel_rfl) ?_
        obtain ⟨v1, h9, H⟩ := bindC (K := fun o => o) rfl H
        have Jj2 : ∀ (y2_2 : Bool), (mut_kind.j2 y2_2) = some r → AK X 52 (K52 [1, 1, 1, 0, 1, 0, 1, 0, 1]) (Back X [] (.b r)) ⟨102, [(2, .b y2_2)], []⟩ := by
          intro y2_2 H
          obtain rfl := retC H
          exact ak_ret hf hX (av := .b y2_2) (by kernel_rfl) [] (sel_of_eq (by kernel_rfl)) (by decide) (by rw [h0]; rfl) (by kernel_rfl) (fun _ h => all_nil h) (.d (.v _))
        refine ak_callP (avs := [.d (.agg [.v (.int .i64 a0.Client), .v (.int .i64 a0.Seq), .v (.int .i64 a0.Kind), .sl true a0.Pairs.length (vec api_Pair.e api_Pair.z a0.Pairs), .v (.int .i64 a0.Over.Lo), .v (.int .i64 a0.Over.Hi), .v (.int .i64 a0.Old)]), .i 1, .i 8]) (dst := some 29) (k' := K52 [1, 1, 1, 0, 1, 0, 1, 0, 0, 2]) [1, 29] [] hP enters_88 (mut_pairs.says (⟨a0.Client, a0.Seq, a0.Kind, a0.Pairs, (⟨a0.Over.Lo, a0.Over.Hi⟩ : api_Span), a0.Old⟩ : api_Mut) 1 8 h9) (by kernel_rfl) (hands_none _) (.cons (pass_d _) (.cons (pass_d _) (.cons (pass_d _) .nil))) (st' := ⟨102, [(1, .ptr 0 0 0 0), (29, .b v1)], [.box 26 [.i a0.Client, .i a0.Seq, .i a0.Kind, .d (.sl true a0.Pairs.length (vec api_Pair.e api_Pair.z a0.Pairs)), .i a0.Over.Lo, .i a0.Over.Hi, .i a0.Old]]⟩) (by kernel_rfl) ?_
        refine go hT 1 [1, 30] (k' := K52 [1, 1, 1, 0, 1, 0, 1, 0, 0, 3]) (st' := ⟨102, [(1, .ptr 0 0 0 0), (30, .b v1)], [.box 26 [.i a0.Client, .i a0.Seq, .i a0.Kind, .d (.sl true a0.Pairs.length (vec api_Pair.e api_Pair.z a0.Pairs)), .i a0.Over.Lo, .i a0.Over.Hi, .i a0.Old]]⟩) (by kernel_rfl) ?_
        by_cases c10 : v1 = true
        · replace H := iteT (K := fun o => o) c10 H
          rw [c10]
          refine go hT 2 [30, 32] (k' := K52 [1, 1, 1, 0, 1, 0, 1, 0, 0, 5]) (st' := ⟨102, [(30, .b true), (32, .d (.sl true a0.Pairs.length (vec api_Pair.e api_Pair.z a0.Pairs)))], [.box 26 [.i a0.Client, .i a0.Seq, .i a0.Kind, .d (.sl true a0.Pairs.length (vec api_Pair.e api_Pair.z a0.Pairs)), .i a0.Over.Lo, .i a0.Over.Hi, .i a0.Old]]⟩) (by kernel_rfl) ?_
          obtain ⟨v2, h11, H⟩ := bindC (K := fun o => o) rfl H
          refine ak_callP (avs := [.d (.sl true a0.Pairs.length (vec api_Pair.e api_Pair.z a0.Pairs))]) (dst := some 33) (k' := K52 [1, 1, 1, 0, 1, 0, 1, 0, 0, 6]) [30, 33] [] hP enters_89 (mut_rising.says (t0 := true) a0.Pairs h11) (by kernel_rfl) (hands_none _) (.cons (pass_d _) .nil) (st' := ⟨102, [(30, .b true), (33, .b v2)], [.box 26 [.i a0.Client, .i a0.Seq, .i a0.Kind, .d (.sl true a0.Pairs.length (vec api_Pair.e api_Pair.z a0.Pairs)), .i a0.Over.Lo, .i a0.Over.Hi, .i a0.Old]]⟩) (by kernel_rfl) ?_
          refine go hT 3 [2] (k' := K52 [1, 1, 1, 0, 1, 0, 1, 0, 1]) (st' := ⟨102, [(2, .b v2)], [.box 26 [.i a0.Client, .i a0.Seq, .i a0.Kind, .d (.sl true a0.Pairs.length (vec api_Pair.e api_Pair.z a0.Pairs)), .i a0.Over.Lo, .i a0.Over.Hi, .i a0.Old]]⟩) (by kernel_rfl) ?_
          refine ak_cut [2] [] (st' := ⟨102, [(2, .b v2)], []⟩) (by kernel_rfl) (by kernel_rfl) rfl (by decide) (by rw [h0]; rfl) ?_
          exact Jj2 v2 H
        · replace H := iteF (K := fun o => o) c10 H
          rw [boF c10]
          refine go hT 6 [2] (k' := K52 [1, 1, 1, 0, 1, 0, 1, 0, 1]) (st' := ⟨102, [(2, .b false)], [.box 26 [.i a0.Client, .i a0.Seq, .i a0.Kind, .d (.sl true a0.Pairs.length (vec api_Pair.e api_Pair.z a0.Pairs)), .i a0.Over.Lo, .i a0.Over.Hi, .i a0.Old]]⟩) (by kernel_rfl) ?_
          refine ak_cut [2] [] (st' := ⟨102, [(2, .b false)], []⟩) (by kernel_rfl) (by kernel_rfl) rfl (by decide) (by rw [h0]; rfl) ?_
          exact Jj2 false H
      · replace H := iteF (K := fun o => o) c8 H
        rw [eqF c8]
        refine go hT 6 [1, 25, 35] (k' := K52 [1, 1, 1, 0, 1, 0, 1, 1, 1]) (st' := ⟨102, [(1, .ptr 0 0 0 0), (25, .i a0.Kind), (35, .b (a0.Kind == 2))], [.box 26 [.i a0.Client, .i a0.Seq, .i a0.Kind, .d (.sl true a0.Pairs.length (vec api_Pair.e api_Pair.z a0.Pairs)), .i a0.Over.Lo, .i a0.Over.Hi, .i a0.Old]]⟩) (by kernel_rfl) ?_
        by_cases c12 : a0.Kind = 2
        · replace H := iteT (K := fun o => o) c12 H
          have Jj3 : ∀ (y3_2 : Bool), (mut_kind.j3 y3_2) = some r → AK X 52 (K52 [1, 1, 1, 0, 1, 0, 1, 1, 1, 0, 1]) (Back X [] (.b r)) ⟨102, [(2, .b y3_2)], []⟩ := by
            intro y3_2 H
            obtain rfl := retC H
            exact ak_ret hf hX (av := .b y3_2) (by kernel_rfl) [] (sel_of_eq (by kernel_rfl)) (by decide) (by rw [h0]; rfl) (by kernel_rfl) (fun _ h => all_nil h) (.d (.v _))
          rw [eqT c12]
          refine go hT 8 [1, 41] (k' := K52 [1, 1, 1, 0, 1, 0, 1, 1, 1, 0, 0, 5]) (st' := ⟨102, [(1, .ptr 0 0 0 0), (41, .b ((a0.Pairs.length : Int) == 0))], [.box 26 [.i a0.Client, .i a0.Seq, .i a0.Kind, .d (.sl true a0.Pairs.length (vec api_Pair.e api_Pair.z a0.Pairs)), .i a0.Over.Lo, .i a0.Over.Hi, .i a0.Old]]⟩) (by kernel_rfl) ?_
          by_cases c13 : (a0.Pairs.length : Int) = 0
          · replace H := iteT (K := fun o => o) c13 H
            rw [eqT c13]
            refine go hT 2 [41, 43] (k' := K52 [1, 1, 1, 0, 1, 0, 1, 1, 1, 0, 0, 7]) (st' := ⟨102, [(41, .b true), (43, .d (.agg [.v (.int .i64 a0.Over.Lo), .v (.int .i64 a0.Over.Hi)]))], [.box 26 [.i a0.Client, .i a0.Seq, .i a0.Kind, .d (.sl true a0.Pairs.length (vec api_Pair.e api_Pair.z a0.Pairs)), .i a0.Over.Lo, .i a0.Over.Hi, .i a0.Old]]⟩) (by kernel_rfl) ?_
            refine ak_callP (avs := [.d (.agg [.v (.int .i64 a0.Over.Lo), .v (.int .i64 a0.Over.Hi)])]) (dst := some 44) (k' := K52 [1, 1, 1, 0, 1, 0, 1, 1, 1, 0, 0, 8]) [41, 44] [] hP enters_56 (span_One.says (⟨a0.Over.Lo, a0.Over.Hi⟩ : api_Span)) (by kernel_rfl) (hands_none _) (.cons (pass_d _) .nil) (st' := ⟨102, [(41, .b true), (44, .b (span_One (⟨a0.Over.Lo, a0.Over.Hi⟩ : api_Span)))], [.box 26 [.i a0.Client, .i a0.Seq, .i a0.Kind, .d (.sl true a0.Pairs.length (vec api_Pair.e api_Pair.z a0.Pairs)), .i a0.Over.Lo, .i a0.Over.Hi, .i a0.Old]]⟩) (by kernel_rfl) ?_
            refine go hT 3 [2] (k' := K52 [1, 1, 1, 0, 1, 0, 1, 1, 1, 0, 1]) (st' := ⟨102, [(2, .b (span_One (⟨a0.Over.Lo, a0.Over.Hi⟩ : api_Span)))], [.box 26 [.i a0.Client, .i a0.Seq, .i a0.Kind, .d (.sl true a0.Pairs.length (vec api_Pair.e api_Pair.z a0.Pairs)), .i a0.Over.Lo, .i a0.Over.Hi, .i a0.Old]]⟩) (by kernel_rfl) ?_
            refine ak_cut [2] [] (st' := ⟨102, [(2, .b (span_One (⟨a0.Over.Lo, a0.Over.Hi⟩ : api_Span)))], []⟩) (by kernel_rfl) (by kernel_rfl) rfl (by decide) (by rw [h0]; rfl) ?_
            exact Jj3 (span_One (⟨a0.Over.Lo, a0.Over.Hi⟩ : api_Span)) H
          · replace H := iteF (K := fun o => o) c13 H
            rw [eqF c13]
            refine go hT 6 [2] (k' := K52 [1, 1, 1, 0, 1, 0, 1, 1, 1, 0, 1]) (st' := ⟨102, [(2, .b false)], [.box 26 [.i a0.Client, .i a0.Seq, .i a0.Kind, .d (.sl true a0.Pairs.length (vec api_Pair.e api_Pair.z a0.Pairs)), .i a0.Over.Lo, .i a0.Over.Hi, .i a0.Old]]⟩) (by kernel_rfl) ?_
            refine ak_cut [2] [] (st' := ⟨102, [(2, .b false)], []⟩) (by kernel_rfl) (by kernel_rfl) rfl (by decide) (by rw [h0]; rfl) ?_
            exact Jj3 false H
        · replace H := iteF (K := fun o => o) c12 H
          rw [eqF c12]
          refine go hT 6 [1, 25, 46] (k' := K52 [1, 1, 1, 0, 1, 0, 1, 1, 1, 1, 1]) (st' := ⟨102, [(1, .ptr 0 0 0 0), (25, .i a0.Kind), (46, .b (a0.Kind == 3))], [.box 26 [.i a0.Client, .i a0.Seq, .i a0.Kind, .d (.sl true a0.Pairs.length (vec api_Pair.e api_Pair.z a0.Pairs)), .i a0.Over.Lo, .i a0.Over.Hi, .i a0.Old]]⟩) (by kernel_rfl) ?_
          by_cases c14 : a0.Kind = 3
          · replace H := iteT (K := fun o => o) c14 H
            rw [eqT c14]
            refine go hT 4 [48] (k' := K52 [1, 1, 1, 0, 1, 0, 1, 1, 1, 1, 1, 0, 0, 1]) (st' := ⟨102, [(48, .d (.agg [.v (.int .i64 a0.Client), .v (.int .i64 a0.Seq), .v (.int .i64 a0.Kind), .sl true a0.Pairs.length (vec api_Pair.e api_Pair.z a0.Pairs), .v (.int .i64 a0.Over.Lo), .v (.int .i64 a0.Over.Hi), .v (.int .i64 a0.Old)]))], [.box 26 [.i a0.Client, .i a0.Seq, .i a0.Kind, .d (.sl true a0.Pairs.length (vec api_Pair.e api_Pair.z a0.Pairs)), .i a0.Over.Lo, .i a0.Over.Hi, .i a0.Old]]⟩) (by kernel_rfl) ?_
            obtain ⟨v3, h15, H⟩ := bindC (K := fun o => o) rfl H
            refine ak_callP (avs := [.d (.agg [.v (.int .i64 a0.Client), .v (.int .i64 a0.Seq), .v (.int .i64 a0.Kind), .sl true a0.Pairs.length (vec api_Pair.e api_Pair.z a0.Pairs), .v (.int .i64 a0.Over.Lo), .v (.int .i64 a0.Over.Hi), .v (.int .i64 a0.Old)]), .i 1, .i 1]) (dst := some 49) (k' := K52 [1, 1, 1, 0, 1, 0, 1, 1, 1, 1, 1, 0, 0, 2]) [49] [] hP enters_88 (mut_pairs.says (⟨a0.Client, a0.Seq, a0.Kind, a0.Pairs, (⟨a0.Over.Lo, a0.Over.Hi⟩ : api_Span), a0.Old⟩ : api_Mut) 1 1 h15) (by kernel_rfl) (hands_none _) (.cons (pass_d _) (.cons (pass_d _) (.cons (pass_d _) .nil))) (st' := ⟨102, [(49, .b v3)], [.box 26 [.i a0.Client, .i a0.Seq, .i a0.Kind, .d (.sl true a0.Pairs.length (vec api_Pair.e api_Pair.z a0.Pairs)), .i a0.Over.Lo, .i a0.Over.Hi, .i a0.Old]]⟩) (by kernel_rfl) ?_
            refine go hT 2 [2] (k' := K52 [1, 1, 1, 0, 1, 0, 1, 1, 1, 1, 1, 0, 1]) (st' := ⟨102, [(2, .b v3)], [.box 26 [.i a0.Client, .i a0.Seq, .i a0.Kind, .d (.sl true a0.Pairs.length (vec api_Pair.e api_Pair.z a0.Pairs)), .i a0.Over.Lo, .i a0.Over.Hi, .i a0.Old]]⟩) (by kernel_rfl) ?_
            obtain rfl := retC H
            exact ak_ret hf hX (av := .b v3) (by kernel_rfl) [] (sel_of_eq (by kernel_rfl)) (by decide) (by rw [h0]; rfl) (by kernel_rfl) (fun _ h => all_nil h) (.d (.v _))
          · replace H := iteF (K := fun o => o) c14 H
            rw [eqF c14]
            refine go hT 6 [1, 25, 50] (k' := K52 [1, 1, 1, 0, 1, 0, 1, 1, 1, 1, 1, 1, 1]) (st' := ⟨102, [(1, .ptr 0 0 0 0), (25, .i a0.Kind), (50, .b (a0.Kind == 4))], [.box 26 [.i a0.Client, .i a0.Seq, .i a0.Kind, .d (.sl true a0.Pairs.length (vec api_Pair.e api_Pair.z a0.Pairs)), .i a0.Over.Lo, .i a0.Over.Hi, .i a0.Old]]⟩) (by kernel_rfl) ?_
            by_cases c16 : a0.Kind = 4
            · replace H := iteT (K := fun o => o) c16 H
              rw [eqT c16]
              refine go hT 4 [1, 52] (k' := K52 [1, 1, 1, 0, 1, 0, 1, 1, 1, 1, 1, 1, 1, 0, 0, 1]) (st' := ⟨102, [(1, .ptr 0 0 0 0), (52, .d (.agg [.v (.int .i64 a0.Client), .v (.int .i64 a0.Seq), .v (.int .i64 a0.Kind), .sl true a0.Pairs.length (vec api_Pair.e api_Pair.z a0.Pairs), .v (.int .i64 a0.Over.Lo), .v (.int .i64 a0.Over.Hi), .v (.int .i64 a0.Old)]))], [.box 26 [.i a0.Client, .i a0.Seq, .i a0.Kind, .d (.sl true a0.Pairs.length (vec api_Pair.e api_Pair.z a0.Pairs)), .i a0.Over.Lo, .i a0.Over.Hi, .i a0.Old]]⟩) (by kernel_rfl) ?_
              obtain ⟨v4, h17, H⟩ := bindC (K := fun o => o) rfl H
              have Jj4 : ∀ (y4_2 : Bool), (mut_kind.j4 y4_2) = some r → AK X 52 (K52 [1, 1, 1, 0, 1, 0, 1, 1, 1, 1, 1, 1, 1, 0, 1]) (Back X [] (.b r)) ⟨102, [(2, .b y4_2)], []⟩ := by
                intro y4_2 H
                obtain rfl := retC H
                exact ak_ret hf hX (av := .b y4_2) (by kernel_rfl) [] (sel_of_eq (by kernel_rfl)) (by decide) (by rw [h0]; rfl) (by kernel_rfl) (fun _ h => all_nil h) (.d (.v _))
              refine ak_callP (avs := [.d (.agg [.v (.int .i64 a0.Client), .v (.int .i64 a0.Seq), .v (.int .i64 a0.Kind), .sl true a0.Pairs.length (vec api_Pair.e api_Pair.z a0.Pairs), .v (.int .i64 a0.Over.Lo), .v (.int .i64 a0.Over.Hi), .v (.int .i64 a0.Old)]), .i 1, .i 1]) (dst := some 53) (k' := K52 [1, 1, 1, 0, 1, 0, 1, 1, 1, 1, 1, 1, 1, 0, 0, 2]) [1, 53] [] hP enters_88 (mut_pairs.says (⟨a0.Client, a0.Seq, a0.Kind, a0.Pairs, (⟨a0.Over.Lo, a0.Over.Hi⟩ : api_Span), a0.Old⟩ : api_Mut) 1 1 h17) (by kernel_rfl) (hands_none _) (.cons (pass_d _) (.cons (pass_d _) (.cons (pass_d _) .nil))) (st' := ⟨102, [(1, .ptr 0 0 0 0), (53, .b v4)], [.box 26 [.i a0.Client, .i a0.Seq, .i a0.Kind, .d (.sl true a0.Pairs.length (vec api_Pair.e api_Pair.z a0.Pairs)), .i a0.Over.Lo, .i a0.Over.Hi, .i a0.Old]]⟩) (by kernel_rfl) ?_
              refine go hT 1 [1, 54] (k' := K52 [1, 1, 1, 0, 1, 0, 1, 1, 1, 1, 1, 1, 1, 0, 0, 3]) (st' := ⟨102, [(1, .ptr 0 0 0 0), (54, .b v4)], [.box 26 [.i a0.Client, .i a0.Seq, .i a0.Kind, .d (.sl true a0.Pairs.length (vec api_Pair.e api_Pair.z a0.Pairs)), .i a0.Over.Lo, .i a0.Over.Hi, .i a0.Old]]⟩) (by kernel_rfl) ?_
              by_cases c18 : v4 = true
              · replace H := iteT (K := fun o => o) c18 H
                rw [c18]
                refine go hT 2 [1, 54, 56] (k' := K52 [1, 1, 1, 0, 1, 0, 1, 1, 1, 1, 1, 1, 1, 0, 0, 5]) (st' := ⟨102, [(1, .ptr 0 0 0 0), (54, .b true), (56, .i a0.Old)], [.box 26 [.i a0.Client, .i a0.Seq, .i a0.Kind, .d (.sl true a0.Pairs.length (vec api_Pair.e api_Pair.z a0.Pairs)), .i a0.Over.Lo, .i a0.Over.Hi, .i a0.Old]]⟩) (by kernel_rfl) ?_
                refine ak_callP (avs := [.i a0.Old]) (dst := some 57) (k' := K52 [1, 1, 1, 0, 1, 0, 1, 1, 1, 1, 1, 1, 1, 0, 0, 6]) [1, 54, 57] [] hP enters_90 (mut_value.says a0.Old) (by kernel_rfl) (hands_none _) (.cons (pass_d _) .nil) (st' := ⟨102, [(1, .ptr 0 0 0 0), (54, .b true), (57, .b (mut_value a0.Old))], [.box 26 [.i a0.Client, .i a0.Seq, .i a0.Kind, .d (.sl true a0.Pairs.length (vec api_Pair.e api_Pair.z a0.Pairs)), .i a0.Over.Lo, .i a0.Over.Hi, .i a0.Old]]⟩) (by kernel_rfl) ?_
                refine go hT 1 [1, 54, 58] (k' := K52 [1, 1, 1, 0, 1, 0, 1, 1, 1, 1, 1, 1, 1, 0, 0, 7]) (st' := ⟨102, [(1, .ptr 0 0 0 0), (54, .b true), (58, .b (mut_value a0.Old))], [.box 26 [.i a0.Client, .i a0.Seq, .i a0.Kind, .d (.sl true a0.Pairs.length (vec api_Pair.e api_Pair.z a0.Pairs)), .i a0.Over.Lo, .i a0.Over.Hi, .i a0.Old]]⟩) (by kernel_rfl) ?_
                by_cases c19 : (mut_value a0.Old) = true
                · replace H := iteT (K := fun o => o) c19 H
                  rw [c19]
                  refine go hT 7 [2] (k' := K52 [1, 1, 1, 0, 1, 0, 1, 1, 1, 1, 1, 1, 1, 0, 1]) (st' := ⟨102, [(2, .b true)], [.box 26 [.i a0.Client, .i a0.Seq, .i a0.Kind, .d (.sl true a0.Pairs.length (vec api_Pair.e api_Pair.z a0.Pairs)), .i a0.Over.Lo, .i a0.Over.Hi, .i a0.Old]]⟩) (by kernel_rfl) ?_
                  refine ak_cut [2] [] (st' := ⟨102, [(2, .b true)], []⟩) (by kernel_rfl) (by kernel_rfl) rfl (by decide) (by rw [h0]; rfl) ?_
                  exact Jj4 true H
                · replace H := iteF (K := fun o => o) c19 H
                  rw [boF c19]
                  refine go hT 7 [2] (k' := K52 [1, 1, 1, 0, 1, 0, 1, 1, 1, 1, 1, 1, 1, 0, 1]) (st' := ⟨102, [(2, .b (a0.Old == 1099511627777))], [.box 26 [.i a0.Client, .i a0.Seq, .i a0.Kind, .d (.sl true a0.Pairs.length (vec api_Pair.e api_Pair.z a0.Pairs)), .i a0.Over.Lo, .i a0.Over.Hi, .i a0.Old]]⟩) (by kernel_rfl) ?_
                  refine ak_cut [2] [] (st' := ⟨102, [(2, .b (a0.Old == 1099511627777))], []⟩) (by kernel_rfl) (by kernel_rfl) rfl (by decide) (by rw [h0]; rfl) ?_
                  exact Jj4 (a0.Old == 1099511627777) H
              · replace H := iteF (K := fun o => o) c18 H
                rw [boF c18]
                refine go hT 11 [2] (k' := K52 [1, 1, 1, 0, 1, 0, 1, 1, 1, 1, 1, 1, 1, 0, 1]) (st' := ⟨102, [(2, .b false)], [.box 26 [.i a0.Client, .i a0.Seq, .i a0.Kind, .d (.sl true a0.Pairs.length (vec api_Pair.e api_Pair.z a0.Pairs)), .i a0.Over.Lo, .i a0.Over.Hi, .i a0.Old]]⟩) (by kernel_rfl) ?_
                refine ak_cut [2] [] (st' := ⟨102, [(2, .b false)], []⟩) (by kernel_rfl) (by kernel_rfl) rfl (by decide) (by rw [h0]; rfl) ?_
                exact Jj4 false H
            · replace H := iteF (K := fun o => o) c16 H
              rw [eqF c16]
              refine go hT 6 [1, 64] (k' := K52 [1, 1, 1, 0, 1, 0, 1, 1, 1, 1, 1, 1, 1, 1, 1]) (st' := ⟨102, [(1, .ptr 0 0 0 0), (64, .b (a0.Kind == 5))], [.box 26 [.i a0.Client, .i a0.Seq, .i a0.Kind, .d (.sl true a0.Pairs.length (vec api_Pair.e api_Pair.z a0.Pairs)), .i a0.Over.Lo, .i a0.Over.Hi, .i a0.Old]]⟩) (by kernel_rfl) ?_
              by_cases c20 : a0.Kind = 5
              · replace H := iteT (K := fun o => o) c20 H
                rw [eqT c20]
                refine go hT 2 [1] (k' := K52 [1, 1, 1, 0, 1, 0, 1, 1, 1, 1, 1, 1, 1, 1, 1, 0, 0]) (st' := ⟨102, [(1, .ptr 0 0 0 0)], [.box 26 [.i a0.Client, .i a0.Seq, .i a0.Kind, .d (.sl true a0.Pairs.length (vec api_Pair.e api_Pair.z a0.Pairs)), .i a0.Over.Lo, .i a0.Over.Hi, .i a0.Old]]⟩) (by kernel_rfl) ?_
                obtain ⟨v5, h21, H⟩ := bindC (K := fun o => o) rfl H
                have Jj5 : ∀ (y5_2 : Bool), (mut_kind.j5 y5_2) = some r → AK X 52 (K52 [1, 1, 1, 0, 1, 0, 1, 1, 1, 1, 1, 1, 1, 1, 1, 0, 1]) (Back X [] (.b r)) ⟨102, [(2, .b y5_2)], []⟩ := by
                  intro y5_2 H
                  obtain rfl := retC H
                  exact ak_ret hf hX (av := .b y5_2) (by kernel_rfl) [] (sel_of_eq (by kernel_rfl)) (by decide) (by rw [h0]; rfl) (by kernel_rfl) (fun _ h => all_nil h) (.d (.v _))
                by_cases c22 : v5 = true
                · replace H := iteT (K := fun o => o) c22 H
                  obtain ⟨h23, H⟩ := iteC (K := fun o => o) rfl H
                  obtain ⟨h24, H⟩ := iteC (K := fun o => o) rfl H
                  by_cases c25 : ((a0.Pairs.getD 0 api_Pair.z).Key) = ((a0.Pairs.getD 1 api_Pair.z).Key)
                  · replace H := iteT (K := fun o => o) c25 H
                    refine ak_drawAt (nt := 102) (rows := [.box 26 [.i a0.Client, .i a0.Seq, .i a0.Kind, .d (.sl true a0.Pairs.length (vec api_Pair.e api_Pair.z a0.Pairs)), .i a0.Over.Lo, .i a0.Over.Hi, .i a0.Old]]) (hP ▸ mixed) 26 [1] [(1, .ptr 0 0 0 0)] [some (.d (.agg [.v (.int .i64 a0.Client), .v (.int .i64 a0.Seq), .v (.int .i64 a0.Kind), .sl true a0.Pairs.length (vec api_Pair.e api_Pair.z a0.Pairs), .v (.int .i64 a0.Over.Lo), .v (.int .i64 a0.Over.Hi), .v (.int .i64 a0.Old)])), some (.b true), some (.b true), some (.ptr 0 0 0 3), some (.d (.sl true a0.Pairs.length (vec api_Pair.e api_Pair.z a0.Pairs))), some (.d (.rop true a0.Pairs.length (vec api_Pair.e api_Pair.z a0.Pairs) 0 0)), some (.d (.rop true a0.Pairs.length (vec api_Pair.e api_Pair.z a0.Pairs) 0 0)), some (.i ((a0.Pairs.getD 0 api_Pair.z).Key)), some (.ptr 0 0 0 3), some (.d (.sl true a0.Pairs.length (vec api_Pair.e api_Pair.z a0.Pairs))), some (.d (.rop true a0.Pairs.length (vec api_Pair.e api_Pair.z a0.Pairs) 1 0)), some (.d (.rop true a0.Pairs.length (vec api_Pair.e api_Pair.z a0.Pairs) 1 0)), some (.i ((a0.Pairs.getD 1 api_Pair.z).Key)), some (.b false), some (.b false), some (.b false), some (.tup []), some (.tup []), some (.tup []), some (.tup []), some (.tup []), some (.tup []), some (.tup []), some (.tup []), some (.tup []), some (.tup [])] (by kernel_rfl) (by kernel_rfl) (by kernel_rfl) (opS (opS (opS (opS (opS (opS (opS (opS (opS (opS (opS (opS (opS (opS (opS (opS (opS (opS (opS (opS (opS (opS (opS (opS (opS (opS op0 (op_go hT fun R rest => by kernel_rfl)) (fun R rest h => ak_callD (avs := [.d (.agg [.v (.int .i64 a0.Client), .v (.int .i64 a0.Seq), .v (.int .i64 a0.Kind), .sl true a0.Pairs.length (vec api_Pair.e api_Pair.z a0.Pairs), .v (.int .i64 a0.Over.Lo), .v (.int .i64 a0.Over.Hi), .v (.int .i64 a0.Old)]), .i 2, .i 2]) (dst := some 67) hP enters_88 (by have q := mut_pairs.says (⟨a0.Client, a0.Seq, a0.Kind, a0.Pairs, (⟨a0.Over.Lo, a0.Over.Hi⟩ : api_Span), a0.Old⟩ : api_Mut) 2 2 h21; rw [c22] at q; exact q) (by kernel_rfl) (.cons (pass_d _) (.cons (pass_d _) (.cons (pass_d _) .nil))) (by kernel_rfl) h)) (op_go hT fun R rest => by kernel_rfl)) (op_go hT fun R rest => by kernel_rfl)) (op_go hT fun R rest => by kernel_rfl)) (fun R rest h => ak_idx0 hT (i := 0) (n := (a0.Pairs.length : Int)) h23.1 h23.2 (by kernel_rfl) h)) (op_go hT fun R rest => by kernel_rfl)) (op_go hT fun R rest => by kernel_rfl)) (op_go hT fun R rest => by kernel_rfl)) (op_go hT fun R rest => by kernel_rfl)) (fun R rest h => ak_idx0 hT (i := 1) (n := (a0.Pairs.length : Int)) h24.1 h24.2 (by kernel_rfl) h)) (op_go hT fun R rest => by kernel_rfl)) (op_go hT fun R rest => by kernel_rfl)) (op_goE hT (st' := fun R rest => ⟨102, (79, .b (((a0.Pairs.getD 0 api_Pair.z).Key) != ((a0.Pairs.getD 1 api_Pair.z).Key))) :: needOf (opsAt (K52 [1, 1, 1, 0, 1, 0, 1, 1, 1, 1, 1, 1, 1, 1, 1, 0, 0])) [(1, .ptr 0 0 0 0)] [some (.d (.agg [.v (.int .i64 a0.Client), .v (.int .i64 a0.Seq), .v (.int .i64 a0.Kind), .sl true a0.Pairs.length (vec api_Pair.e api_Pair.z a0.Pairs), .v (.int .i64 a0.Over.Lo), .v (.int .i64 a0.Over.Hi), .v (.int .i64 a0.Old)])), some (.b true), some (.b true), some (.ptr 0 0 0 3), some (.d (.sl true a0.Pairs.length (vec api_Pair.e api_Pair.z a0.Pairs))), some (.d (.rop true a0.Pairs.length (vec api_Pair.e api_Pair.z a0.Pairs) 0 0)), some (.d (.rop true a0.Pairs.length (vec api_Pair.e api_Pair.z a0.Pairs) 0 0)), some (.i ((a0.Pairs.getD 0 api_Pair.z).Key)), some (.ptr 0 0 0 3), some (.d (.sl true a0.Pairs.length (vec api_Pair.e api_Pair.z a0.Pairs))), some (.d (.rop true a0.Pairs.length (vec api_Pair.e api_Pair.z a0.Pairs) 1 0)), some (.d (.rop true a0.Pairs.length (vec api_Pair.e api_Pair.z a0.Pairs) 1 0)), some (.i ((a0.Pairs.getD 1 api_Pair.z).Key)), some (.b false), some (.b false), some (.b false), some (.tup []), some (.tup []), some (.tup []), some (.tup []), some (.tup []), some (.tup []), some (.tup []), some (.tup []), some (.tup []), some (.tup [])] 13 ++ rest, [.box 26 [.i a0.Client, .i a0.Seq, .i a0.Kind, .d (.sl true a0.Pairs.length (vec api_Pair.e api_Pair.z a0.Pairs)), .i a0.Over.Lo, .i a0.Over.Hi, .i a0.Old]]⟩) (fun R rest => by kernel_rfl) (fun R rest => by rw [neF c25]; first | done | rfl))) (op_go hT fun R rest => by kernel_rfl)) (op_go hT fun R rest => by kernel_rfl)) (op_go hT fun R rest => by kernel_rfl)) (op_go hT fun R rest => by kernel_rfl)) (op_go hT fun R rest => by kernel_rfl)) (op_go hT fun R rest => by kernel_rfl)) (op_go hT fun R rest => by kernel_rfl)) (op_go hT fun R rest => by kernel_rfl)) (op_go hT fun R rest => by kernel_rfl)) (op_go hT fun R rest => by kernel_rfl)) (op_go hT fun R rest => by kernel_rfl)) (op_go hT fun R rest => by kernel_rfl)) ?_
                    refine go hT 12 [2] (k' := K52 [1, 1, 1, 0, 1, 0, 1, 1, 1, 1, 1, 1, 1, 1, 1, 0, 1]) (st' := ⟨102, [(2, .b false)], [.box 26 [.i a0.Client, .i a0.Seq, .i a0.Kind, .d (.sl true a0.Pairs.length (vec api_Pair.e api_Pair.z a0.Pairs)), .i a0.Over.Lo, .i a0.Over.Hi, .i a0.Old]]⟩) (by kernel_rfl) ?_
                    refine ak_cut [2] [] (st' := ⟨102, [(2, .b false)], []⟩) (by kernel_rfl) (by kernel_rfl) rfl (by decide) (by rw [h0]; rfl) ?_
                    exact Jj5 false H
                  · replace H := iteF (K := fun o => o) c25 H
                    refine ak_drawAt (nt := 102) (rows := [.box 26 [.i a0.Client, .i a0.Seq, .i a0.Kind, .d (.sl true a0.Pairs.length (vec api_Pair.e api_Pair.z a0.Pairs)), .i a0.Over.Lo, .i a0.Over.Hi, .i a0.Old]]) (hP ▸ mixed) 26 [1] [(1, .ptr 0 0 0 0)] [some (.d (.agg [.v (.int .i64 a0.Client), .v (.int .i64 a0.Seq), .v (.int .i64 a0.Kind), .sl true a0.Pairs.length (vec api_Pair.e api_Pair.z a0.Pairs), .v (.int .i64 a0.Over.Lo), .v (.int .i64 a0.Over.Hi), .v (.int .i64 a0.Old)])), some (.b true), some (.b true), some (.ptr 0 0 0 3), some (.d (.sl true a0.Pairs.length (vec api_Pair.e api_Pair.z a0.Pairs))), some (.d (.rop true a0.Pairs.length (vec api_Pair.e api_Pair.z a0.Pairs) 0 0)), some (.d (.rop true a0.Pairs.length (vec api_Pair.e api_Pair.z a0.Pairs) 0 0)), some (.i ((a0.Pairs.getD 0 api_Pair.z).Key)), some (.ptr 0 0 0 3), some (.d (.sl true a0.Pairs.length (vec api_Pair.e api_Pair.z a0.Pairs))), some (.d (.rop true a0.Pairs.length (vec api_Pair.e api_Pair.z a0.Pairs) 1 0)), some (.d (.rop true a0.Pairs.length (vec api_Pair.e api_Pair.z a0.Pairs) 1 0)), some (.i ((a0.Pairs.getD 1 api_Pair.z).Key)), some (.b true), some (.b true), some (.b true), some (.ptr 0 0 0 3), some (.d (.sl true a0.Pairs.length (vec api_Pair.e api_Pair.z a0.Pairs))), some (.d (.rop true a0.Pairs.length (vec api_Pair.e api_Pair.z a0.Pairs) 0 0)), some (.d (.rop true a0.Pairs.length (vec api_Pair.e api_Pair.z a0.Pairs) 0 1)), some (.i ((a0.Pairs.getD 0 api_Pair.z).Val)), some (.ptr 0 0 0 3), some (.d (.sl true a0.Pairs.length (vec api_Pair.e api_Pair.z a0.Pairs))), some (.d (.rop true a0.Pairs.length (vec api_Pair.e api_Pair.z a0.Pairs) 1 0)), some (.d (.rop true a0.Pairs.length (vec api_Pair.e api_Pair.z a0.Pairs) 1 1)), some (.i ((a0.Pairs.getD 1 api_Pair.z).Val))] (by kernel_rfl) (by kernel_rfl) (by kernel_rfl) (opS (opS (opS (opS (opS (opS (opS (opS (opS (opS (opS (opS (opS (opS (opS (opS (opS (opS (opS (opS (opS (opS (opS (opS (opS (opS op0 (op_go hT fun R rest => by kernel_rfl)) (fun R rest h => ak_callD (avs := [.d (.agg [.v (.int .i64 a0.Client), .v (.int .i64 a0.Seq), .v (.int .i64 a0.Kind), .sl true a0.Pairs.length (vec api_Pair.e api_Pair.z a0.Pairs), .v (.int .i64 a0.Over.Lo), .v (.int .i64 a0.Over.Hi), .v (.int .i64 a0.Old)]), .i 2, .i 2]) (dst := some 67) hP enters_88 (by have q := mut_pairs.says (⟨a0.Client, a0.Seq, a0.Kind, a0.Pairs, (⟨a0.Over.Lo, a0.Over.Hi⟩ : api_Span), a0.Old⟩ : api_Mut) 2 2 h21; rw [c22] at q; exact q) (by kernel_rfl) (.cons (pass_d _) (.cons (pass_d _) (.cons (pass_d _) .nil))) (by kernel_rfl) h)) (op_go hT fun R rest => by kernel_rfl)) (op_go hT fun R rest => by kernel_rfl)) (op_go hT fun R rest => by kernel_rfl)) (fun R rest h => ak_idx0 hT (i := 0) (n := (a0.Pairs.length : Int)) h23.1 h23.2 (by kernel_rfl) h)) (op_go hT fun R rest => by kernel_rfl)) (op_go hT fun R rest => by kernel_rfl)) (op_go hT fun R rest => by kernel_rfl)) (op_go hT fun R rest => by kernel_rfl)) (fun R rest h => ak_idx0 hT (i := 1) (n := (a0.Pairs.length : Int)) h24.1 h24.2 (by kernel_rfl) h)) (op_go hT fun R rest => by kernel_rfl)) (op_go hT fun R rest => by kernel_rfl)) (op_goE hT (st' := fun R rest => ⟨102, (79, .b (((a0.Pairs.getD 0 api_Pair.z).Key) != ((a0.Pairs.getD 1 api_Pair.z).Key))) :: needOf (opsAt (K52 [1, 1, 1, 0, 1, 0, 1, 1, 1, 1, 1, 1, 1, 1, 1, 0, 0])) [(1, .ptr 0 0 0 0)] [some (.d (.agg [.v (.int .i64 a0.Client), .v (.int .i64 a0.Seq), .v (.int .i64 a0.Kind), .sl true a0.Pairs.length (vec api_Pair.e api_Pair.z a0.Pairs), .v (.int .i64 a0.Over.Lo), .v (.int .i64 a0.Over.Hi), .v (.int .i64 a0.Old)])), some (.b true), some (.b true), some (.ptr 0 0 0 3), some (.d (.sl true a0.Pairs.length (vec api_Pair.e api_Pair.z a0.Pairs))), some (.d (.rop true a0.Pairs.length (vec api_Pair.e api_Pair.z a0.Pairs) 0 0)), some (.d (.rop true a0.Pairs.length (vec api_Pair.e api_Pair.z a0.Pairs) 0 0)), some (.i ((a0.Pairs.getD 0 api_Pair.z).Key)), some (.ptr 0 0 0 3), some (.d (.sl true a0.Pairs.length (vec api_Pair.e api_Pair.z a0.Pairs))), some (.d (.rop true a0.Pairs.length (vec api_Pair.e api_Pair.z a0.Pairs) 1 0)), some (.d (.rop true a0.Pairs.length (vec api_Pair.e api_Pair.z a0.Pairs) 1 0)), some (.i ((a0.Pairs.getD 1 api_Pair.z).Key)), some (.b true), some (.b true), some (.b true), some (.ptr 0 0 0 3), some (.d (.sl true a0.Pairs.length (vec api_Pair.e api_Pair.z a0.Pairs))), some (.d (.rop true a0.Pairs.length (vec api_Pair.e api_Pair.z a0.Pairs) 0 0)), some (.d (.rop true a0.Pairs.length (vec api_Pair.e api_Pair.z a0.Pairs) 0 1)), some (.i ((a0.Pairs.getD 0 api_Pair.z).Val)), some (.ptr 0 0 0 3), some (.d (.sl true a0.Pairs.length (vec api_Pair.e api_Pair.z a0.Pairs))), some (.d (.rop true a0.Pairs.length (vec api_Pair.e api_Pair.z a0.Pairs) 1 0)), some (.d (.rop true a0.Pairs.length (vec api_Pair.e api_Pair.z a0.Pairs) 1 1)), some (.i ((a0.Pairs.getD 1 api_Pair.z).Val))] 13 ++ rest, [.box 26 [.i a0.Client, .i a0.Seq, .i a0.Kind, .d (.sl true a0.Pairs.length (vec api_Pair.e api_Pair.z a0.Pairs)), .i a0.Over.Lo, .i a0.Over.Hi, .i a0.Old]]⟩) (fun R rest => by kernel_rfl) (fun R rest => by rw [neT c25]; first | done | rfl))) (op_go hT fun R rest => by kernel_rfl)) (op_go hT fun R rest => by kernel_rfl)) (op_go hT fun R rest => by kernel_rfl)) (op_go hT fun R rest => by kernel_rfl)) (fun R rest h => ak_idx0 hT (i := 0) (n := (a0.Pairs.length : Int)) h23.1 h23.2 (by kernel_rfl) h)) (op_go hT fun R rest => by kernel_rfl)) (op_go hT fun R rest => by kernel_rfl)) (op_go hT fun R rest => by kernel_rfl)) (op_go hT fun R rest => by kernel_rfl)) (fun R rest h => ak_idx0 hT (i := 1) (n := (a0.Pairs.length : Int)) h24.1 h24.2 (by kernel_rfl) h)) (op_go hT fun R rest => by kernel_rfl)) (op_go hT fun R rest => by kernel_rfl)) ?_
                    refine go hT 3 [1, 94] (k' := K52 [1, 1, 1, 0, 1, 0, 1, 1, 1, 1, 1, 1, 1, 1, 1, 0, 0, 29]) (st' := ⟨102, [(1, .ptr 0 0 0 0), (94, .b (((a0.Pairs.getD 0 api_Pair.z).Val) == ((a0.Pairs.getD 1 api_Pair.z).Val)))], [.box 26 [.i a0.Client, .i a0.Seq, .i a0.Kind, .d (.sl true a0.Pairs.length (vec api_Pair.e api_Pair.z a0.Pairs)), .i a0.Over.Lo, .i a0.Over.Hi, .i a0.Old]]⟩) (by kernel_rfl) ?_
                    by_cases c26 : ((a0.Pairs.getD 0 api_Pair.z).Val) = ((a0.Pairs.getD 1 api_Pair.z).Val)
                    · replace H := iteT (K := fun o => o) c26 H
                      rw [eqT c26]
                      refine go hT 2 [94, 96] (k' := K52 [1, 1, 1, 0, 1, 0, 1, 1, 1, 1, 1, 1, 1, 1, 1, 0, 0, 31]) (st' := ⟨102, [(94, .b true), (96, .d (.sl true a0.Pairs.length (vec api_Pair.e api_Pair.z a0.Pairs)))], [.box 26 [.i a0.Client, .i a0.Seq, .i a0.Kind, .d (.sl true a0.Pairs.length (vec api_Pair.e api_Pair.z a0.Pairs)), .i a0.Over.Lo, .i a0.Over.Hi, .i a0.Old]]⟩) (by kernel_rfl) ?_
                      refine ak_idx hT [94, 97] (i := 0) (n := (a0.Pairs.length : Int)) h23.1 h23.2 (k' := K52 [1, 1, 1, 0, 1, 0, 1, 1, 1, 1, 1, 1, 1, 1, 1, 0, 0, 32]) (st' := ⟨102, [(94, .b true), (97, .d (.rop true a0.Pairs.length (vec api_Pair.e api_Pair.z a0.Pairs) 0 0))], [.box 26 [.i a0.Client, .i a0.Seq, .i a0.Kind, .d (.sl true a0.Pairs.length (vec api_Pair.e api_Pair.z a0.Pairs)), .i a0.Over.Lo, .i a0.Over.Hi, .i a0.Old]]⟩) (by kernel_rfl) ?_
                      refine go hT 6 [2] (k' := K52 [1, 1, 1, 0, 1, 0, 1, 1, 1, 1, 1, 1, 1, 1, 1, 0, 1]) (st' := ⟨102, [(2, .b (decide (((a0.Pairs.getD 0 api_Pair.z).Val) ≥ 0)))], [.box 26 [.i a0.Client, .i a0.Seq, .i a0.Kind, .d (.sl true a0.Pairs.length (vec api_Pair.e api_Pair.z a0.Pairs)), .i a0.Over.Lo, .i a0.Over.Hi, .i a0.Old]]⟩) (by kernel_rfl) ?_
                      refine ak_cut [2] [] (st' := ⟨102, [(2, .b (decide (((a0.Pairs.getD 0 api_Pair.z).Val) ≥ 0)))], []⟩) (by kernel_rfl) (by kernel_rfl) rfl (by decide) (by rw [h0]; rfl) ?_
                      exact Jj5 (decide (((a0.Pairs.getD 0 api_Pair.z).Val) ≥ 0)) H
                    · replace H := iteF (K := fun o => o) c26 H
                      rw [eqF c26]
                      refine go hT 9 [2] (k' := K52 [1, 1, 1, 0, 1, 0, 1, 1, 1, 1, 1, 1, 1, 1, 1, 0, 1]) (st' := ⟨102, [(2, .b false)], [.box 26 [.i a0.Client, .i a0.Seq, .i a0.Kind, .d (.sl true a0.Pairs.length (vec api_Pair.e api_Pair.z a0.Pairs)), .i a0.Over.Lo, .i a0.Over.Hi, .i a0.Old]]⟩) (by kernel_rfl) ?_
                      refine ak_cut [2] [] (st' := ⟨102, [(2, .b false)], []⟩) (by kernel_rfl) (by kernel_rfl) rfl (by decide) (by rw [h0]; rfl) ?_
                      exact Jj5 false H
                · replace H := iteF (K := fun o => o) c22 H
                  refine ak_drawAt (nt := 102) (rows := [.box 26 [.i a0.Client, .i a0.Seq, .i a0.Kind, .d (.sl true a0.Pairs.length (vec api_Pair.e api_Pair.z a0.Pairs)), .i a0.Over.Lo, .i a0.Over.Hi, .i a0.Old]]) (hP ▸ mixed) 26 [1] [(1, .ptr 0 0 0 0)] [some (.d (.agg [.v (.int .i64 a0.Client), .v (.int .i64 a0.Seq), .v (.int .i64 a0.Kind), .sl true a0.Pairs.length (vec api_Pair.e api_Pair.z a0.Pairs), .v (.int .i64 a0.Over.Lo), .v (.int .i64 a0.Over.Hi), .v (.int .i64 a0.Old)])), some (.b false), some (.b false), some (.tup []), some (.tup []), some (.tup []), some (.tup []), some (.tup []), some (.tup []), some (.tup []), some (.tup []), some (.tup []), some (.tup []), some (.tup []), some (.b false), some (.b false), some (.tup []), some (.tup []), some (.tup []), some (.tup []), some (.tup []), some (.tup []), some (.tup []), some (.tup []), some (.tup []), some (.tup [])] (by kernel_rfl) (by kernel_rfl) (by kernel_rfl) (opS (opS (opS (opS (opS (opS (opS (opS (opS (opS (opS (opS (opS (opS (opS (opS (opS (opS (opS (opS (opS (opS (opS (opS (opS (opS op0 (op_go hT fun R rest => by kernel_rfl)) (fun R rest h => ak_callD (avs := [.d (.agg [.v (.int .i64 a0.Client), .v (.int .i64 a0.Seq), .v (.int .i64 a0.Kind), .sl true a0.Pairs.length (vec api_Pair.e api_Pair.z a0.Pairs), .v (.int .i64 a0.Over.Lo), .v (.int .i64 a0.Over.Hi), .v (.int .i64 a0.Old)]), .i 2, .i 2]) (dst := some 67) hP enters_88 (by have q := mut_pairs.says (⟨a0.Client, a0.Seq, a0.Kind, a0.Pairs, (⟨a0.Over.Lo, a0.Over.Hi⟩ : api_Span), a0.Old⟩ : api_Mut) 2 2 h21; rw [boF c22] at q; exact q) (by kernel_rfl) (.cons (pass_d _) (.cons (pass_d _) (.cons (pass_d _) .nil))) (by kernel_rfl) h)) (op_go hT fun R rest => by kernel_rfl)) (op_go hT fun R rest => by kernel_rfl)) (op_go hT fun R rest => by kernel_rfl)) (op_go hT fun R rest => by kernel_rfl)) (op_go hT fun R rest => by kernel_rfl)) (op_go hT fun R rest => by kernel_rfl)) (op_go hT fun R rest => by kernel_rfl)) (op_go hT fun R rest => by kernel_rfl)) (op_go hT fun R rest => by kernel_rfl)) (op_go hT fun R rest => by kernel_rfl)) (op_go hT fun R rest => by kernel_rfl)) (op_go hT fun R rest => by kernel_rfl)) (op_go hT fun R rest => by kernel_rfl)) (op_go hT fun R rest => by kernel_rfl)) (op_go hT fun R rest => by kernel_rfl)) (op_go hT fun R rest => by kernel_rfl)) (op_go hT fun R rest => by kernel_rfl)) (op_go hT fun R rest => by kernel_rfl)) (op_go hT fun R rest => by kernel_rfl)) (op_go hT fun R rest => by kernel_rfl)) (op_go hT fun R rest => by kernel_rfl)) (op_go hT fun R rest => by kernel_rfl)) (op_go hT fun R rest => by kernel_rfl)) (op_go hT fun R rest => by kernel_rfl)) ?_
                  refine go hT 12 [2] (k' := K52 [1, 1, 1, 0, 1, 0, 1, 1, 1, 1, 1, 1, 1, 1, 1, 0, 1]) (st' := ⟨102, [(2, .b false)], [.box 26 [.i a0.Client, .i a0.Seq, .i a0.Kind, .d (.sl true a0.Pairs.length (vec api_Pair.e api_Pair.z a0.Pairs)), .i a0.Over.Lo, .i a0.Over.Hi, .i a0.Old]]⟩) (by kernel_rfl) ?_
                  refine ak_cut [2] [] (st' := ⟨102, [(2, .b false)], []⟩) (by kernel_rfl) (by kernel_rfl) rfl (by decide) (by rw [h0]; rfl) ?_
                  exact Jj5 false H
              · replace H := iteF (K := fun o => o) c20 H
                rw [eqF c20]
                refine go hT 3 [] (k' := K52 [1, 1, 1, 1]) (st' := ⟨102, [], [.box 26 [.i a0.Client, .i a0.Seq, .i a0.Kind, .d (.sl true a0.Pairs.length (vec api_Pair.e api_Pair.z a0.Pairs)), .i a0.Over.Lo, .i a0.Over.Hi, .i a0.Old]]⟩) (by kernel_rfl) ?_
                refine go hT 4 [2] (k' := K52 [1, 1, 1, 1, 1]) (st' := ⟨102, [(2, .b false)], [.box 26 [.i a0.Client, .i a0.Seq, .i a0.Kind, .d (.sl true a0.Pairs.length (vec api_Pair.e api_Pair.z a0.Pairs)), .i a0.Over.Lo, .i a0.Over.Hi, .i a0.Old]]⟩) (by kernel_rfl) ?_
                obtain rfl := retC H
                exact ak_ret hf hX (av := .b false) (by kernel_rfl) [] (sel_of_eq (by kernel_rfl)) (by decide) (by rw [h0]; rfl) (by kernel_rfl) (fun _ h => all_nil h) (.d (.v _))
  refine go hT 18 [1, 3, 8] (k' := K52 [1, 1, 0, 0, 4]) (st' := ⟨102, [(1, .ptr 0 0 0 0), (3, .ptr 1 0 0 0), (8, .b (a0.Kind != 2))], [.box 26 [.i a0.Client, .i a0.Seq, .i a0.Kind, .d (.sl true a0.Pairs.length (vec api_Pair.e api_Pair.z a0.Pairs)), .i a0.Over.Lo, .i a0.Over.Hi, .i a0.Old], .box 24 [.i 0, .i 0]]⟩) (by kernel_rfl) ?_
  by_cases c1 : a0.Kind = 2
  · replace H := iteT (K := fun o => o) c1 H
    rw [neF c1]
    refine go hT 10 [1, 14, 18] (k' := K52 [1, 1, 0, 0, 14]) (st' := ⟨102, [(1, .ptr 0 0 0 0), (14, .b false), (18, .b (a0.Kind != 4))], [.box 26 [.i a0.Client, .i a0.Seq, .i a0.Kind, .d (.sl true a0.Pairs.length (vec api_Pair.e api_Pair.z a0.Pairs)), .i a0.Over.Lo, .i a0.Over.Hi, .i a0.Old], .box 24 [.i 0, .i 0]]⟩) (by kernel_rfl) ?_
    by_cases c2 : a0.Kind = 4
    · replace H := iteT (K := fun o => o) c2 H
      rw [neF c2]
      refine go hT 6 [1, 23] (k' := K52 [1, 1, 0, 1]) (st' := ⟨102, [(1, .ptr 0 0 0 0), (23, .b false)], [.box 26 [.i a0.Client, .i a0.Seq, .i a0.Kind, .d (.sl true a0.Pairs.length (vec api_Pair.e api_Pair.z a0.Pairs)), .i a0.Over.Lo, .i a0.Over.Hi, .i a0.Old], .box 24 [.i 0, .i 0]]⟩) (by kernel_rfl) ?_
      refine ak_cut [1, 23] [0] (st' := ⟨102, [(1, .ptr 0 0 0 0), (23, .b false)], [.box 26 [.i a0.Client, .i a0.Seq, .i a0.Kind, .d (.sl true a0.Pairs.length (vec api_Pair.e api_Pair.z a0.Pairs)), .i a0.Over.Lo, .i a0.Over.Hi, .i a0.Old]]⟩) (by kernel_rfl) (by kernel_rfl) rfl (by decide) (by rw [h0]; rfl) ?_
      exact Jj1 false H
    · replace H := iteF (K := fun o => o) c2 H
      rw [neT c2]
      refine go hT 6 [1, 23] (k' := K52 [1, 1, 0, 1]) (st' := ⟨102, [(1, .ptr 0 0 0 0), (23, .b (a0.Old != 0))], [.box 26 [.i a0.Client, .i a0.Seq, .i a0.Kind, .d (.sl true a0.Pairs.length (vec api_Pair.e api_Pair.z a0.Pairs)), .i a0.Over.Lo, .i a0.Over.Hi, .i a0.Old], .box 24 [.i 0, .i 0]]⟩) (by kernel_rfl) ?_
      refine ak_cut [1, 23] [0] (st' := ⟨102, [(1, .ptr 0 0 0 0), (23, .b (a0.Old != 0))], [.box 26 [.i a0.Client, .i a0.Seq, .i a0.Kind, .d (.sl true a0.Pairs.length (vec api_Pair.e api_Pair.z a0.Pairs)), .i a0.Over.Lo, .i a0.Over.Hi, .i a0.Old]]⟩) (by kernel_rfl) (by kernel_rfl) rfl (by decide) (by rw [h0]; rfl) ?_
      exact Jj1 (a0.Old != 0) H
  · replace H := iteF (K := fun o => o) c1 H
    rw [neT c1]
    refine go hT 6 [1, 14] (k' := K52 [1, 1, 0, 0, 10]) (st' := ⟨102, [(1, .ptr 0 0 0 0), (14, .b (!((a0.Over.Lo == 0) && (a0.Over.Hi == 0))))], [.box 26 [.i a0.Client, .i a0.Seq, .i a0.Kind, .d (.sl true a0.Pairs.length (vec api_Pair.e api_Pair.z a0.Pairs)), .i a0.Over.Lo, .i a0.Over.Hi, .i a0.Old], .box 24 [.i 0, .i 0]]⟩) (by kernel_rfl) ?_
    by_cases c3 : a0.Over.Lo = 0
    · replace H := iteT (K := fun o => o) c3 H
      rw [eqT c3]
      by_cases c4 : a0.Over.Hi = 0
      · replace H := iteT (K := fun o => o) c4 H
        rw [eqT c4]
        refine go hT 4 [1, 14, 18] (k' := K52 [1, 1, 0, 0, 14]) (st' := ⟨102, [(1, .ptr 0 0 0 0), (14, .b false), (18, .b (a0.Kind != 4))], [.box 26 [.i a0.Client, .i a0.Seq, .i a0.Kind, .d (.sl true a0.Pairs.length (vec api_Pair.e api_Pair.z a0.Pairs)), .i a0.Over.Lo, .i a0.Over.Hi, .i a0.Old], .box 24 [.i 0, .i 0]]⟩) (by kernel_rfl) ?_
        by_cases c5 : a0.Kind = 4
        · replace H := iteT (K := fun o => o) c5 H
          rw [neF c5]
          refine go hT 6 [1, 23] (k' := K52 [1, 1, 0, 1]) (st' := ⟨102, [(1, .ptr 0 0 0 0), (23, .b false)], [.box 26 [.i a0.Client, .i a0.Seq, .i a0.Kind, .d (.sl true a0.Pairs.length (vec api_Pair.e api_Pair.z a0.Pairs)), .i a0.Over.Lo, .i a0.Over.Hi, .i a0.Old], .box 24 [.i 0, .i 0]]⟩) (by kernel_rfl) ?_
          refine ak_cut [1, 23] [0] (st' := ⟨102, [(1, .ptr 0 0 0 0), (23, .b false)], [.box 26 [.i a0.Client, .i a0.Seq, .i a0.Kind, .d (.sl true a0.Pairs.length (vec api_Pair.e api_Pair.z a0.Pairs)), .i a0.Over.Lo, .i a0.Over.Hi, .i a0.Old]]⟩) (by kernel_rfl) (by kernel_rfl) rfl (by decide) (by rw [h0]; rfl) ?_
          exact Jj1 false H
        · replace H := iteF (K := fun o => o) c5 H
          rw [neT c5]
          refine go hT 6 [1, 23] (k' := K52 [1, 1, 0, 1]) (st' := ⟨102, [(1, .ptr 0 0 0 0), (23, .b (a0.Old != 0))], [.box 26 [.i a0.Client, .i a0.Seq, .i a0.Kind, .d (.sl true a0.Pairs.length (vec api_Pair.e api_Pair.z a0.Pairs)), .i a0.Over.Lo, .i a0.Over.Hi, .i a0.Old], .box 24 [.i 0, .i 0]]⟩) (by kernel_rfl) ?_
          refine ak_cut [1, 23] [0] (st' := ⟨102, [(1, .ptr 0 0 0 0), (23, .b (a0.Old != 0))], [.box 26 [.i a0.Client, .i a0.Seq, .i a0.Kind, .d (.sl true a0.Pairs.length (vec api_Pair.e api_Pair.z a0.Pairs)), .i a0.Over.Lo, .i a0.Over.Hi, .i a0.Old]]⟩) (by kernel_rfl) (by kernel_rfl) rfl (by decide) (by rw [h0]; rfl) ?_
          exact Jj1 (a0.Old != 0) H
      · replace H := iteF (K := fun o => o) c4 H
        rw [eqF c4]
        refine go hT 10 [1, 23] (k' := K52 [1, 1, 0, 1]) (st' := ⟨102, [(1, .ptr 0 0 0 0), (23, .b true)], [.box 26 [.i a0.Client, .i a0.Seq, .i a0.Kind, .d (.sl true a0.Pairs.length (vec api_Pair.e api_Pair.z a0.Pairs)), .i a0.Over.Lo, .i a0.Over.Hi, .i a0.Old], .box 24 [.i 0, .i 0]]⟩) (by kernel_rfl) ?_
        refine ak_cut [1, 23] [0] (st' := ⟨102, [(1, .ptr 0 0 0 0), (23, .b true)], [.box 26 [.i a0.Client, .i a0.Seq, .i a0.Kind, .d (.sl true a0.Pairs.length (vec api_Pair.e api_Pair.z a0.Pairs)), .i a0.Over.Lo, .i a0.Over.Hi, .i a0.Old]]⟩) (by kernel_rfl) (by kernel_rfl) rfl (by decide) (by rw [h0]; rfl) ?_
        exact Jj1 true H
    · replace H := iteF (K := fun o => o) c3 H
      rw [eqF c3]
      by_cases c6 : a0.Over.Hi = 0
      · replace H := iteT (K := fun o => o) c6 H
        rw [eqT c6]
        refine go hT 10 [1, 23] (k' := K52 [1, 1, 0, 1]) (st' := ⟨102, [(1, .ptr 0 0 0 0), (23, .b true)], [.box 26 [.i a0.Client, .i a0.Seq, .i a0.Kind, .d (.sl true a0.Pairs.length (vec api_Pair.e api_Pair.z a0.Pairs)), .i a0.Over.Lo, .i a0.Over.Hi, .i a0.Old], .box 24 [.i 0, .i 0]]⟩) (by kernel_rfl) ?_
        refine ak_cut [1, 23] [0] (st' := ⟨102, [(1, .ptr 0 0 0 0), (23, .b true)], [.box 26 [.i a0.Client, .i a0.Seq, .i a0.Kind, .d (.sl true a0.Pairs.length (vec api_Pair.e api_Pair.z a0.Pairs)), .i a0.Over.Lo, .i a0.Over.Hi, .i a0.Old]]⟩) (by kernel_rfl) (by kernel_rfl) rfl (by decide) (by rw [h0]; rfl) ?_
        exact Jj1 true H
      · replace H := iteF (K := fun o => o) c6 H
        rw [eqF c6]
        refine go hT 10 [1, 23] (k' := K52 [1, 1, 0, 1]) (st' := ⟨102, [(1, .ptr 0 0 0 0), (23, .b true)], [.box 26 [.i a0.Client, .i a0.Seq, .i a0.Kind, .d (.sl true a0.Pairs.length (vec api_Pair.e api_Pair.z a0.Pairs)), .i a0.Over.Lo, .i a0.Over.Hi, .i a0.Old], .box 24 [.i 0, .i 0]]⟩) (by kernel_rfl) ?_
        refine ak_cut [1, 23] [0] (st' := ⟨102, [(1, .ptr 0 0 0 0), (23, .b true)], [.box 26 [.i a0.Client, .i a0.Seq, .i a0.Kind, .d (.sl true a0.Pairs.length (vec api_Pair.e api_Pair.z a0.Pairs)), .i a0.Over.Lo, .i a0.Over.Hi, .i a0.Old]]⟩) (by kernel_rfl) (by kernel_rfl) rfl (by decide) (by rw [h0]; rfl) ?_
        exact Jj1 true H


theorem mut_Check.says (a0 : api_Mut) {r : Bool} (H : mut_Check a0 = some r) : Says Try.prog 23 [] [.d (.agg (api_Mut.e a0))] [] (.b r) := by
  refine says_of Try.func23 rfl (nt := 25) rfl (Nat.le_of_ble_eq_true rfl) fun X hP h0 hX => ?_
  have hT : TabOk X.P T := hP ▸ tok
  have hf : X.P.funcs[23]? = some Try.f23 := hP ▸ Try.func23
  have Jj1 : ∀ (y1_2 : Bool), (mut_Check.j1 y1_2) = some r → AK X 23 (K23 [1, 1]) (Back X [] (.b r)) ⟨25, [(2, .b y1_2)], []⟩ := by
    intro y1_2 H
    obtain rfl := retC H
    exact ak_ret hf hX (av := .b y1_2) (by kernel_rfl) [] (sel_of_eq (by kernel_rfl)) (by decide) (by rw [h0]; rfl) (by kernel_rfl) (fun _ h => all_nil h) (.d (.v _))
  refine go hT 11 [1, 6] (k' := K23 [1, 0, 4]) (st' := ⟨25, [(1, .ptr 0 0 0 0), (6, .b (decide (a0.Client ≥ 1)))], [.box 26 [.i a0.Client, .i a0.Seq, .i a0.Kind, .d (.sl true a0.Pairs.length (vec api_Pair.e api_Pair.z a0.Pairs)), .i a0.Over.Lo, .i a0.Over.Hi, .i a0.Old]]⟩) (by kernel_rfl) ?_
  by_cases c1 : a0.Client ≥ 1
  · replace H := iteT (K := fun o => o) c1 H
    rw [decide_eq_true c1]
    refine go hT 5 [1, 11] (k' := K23 [1, 0, 9]) (st' := ⟨25, [(1, .ptr 0 0 0 0), (11, .b (decide (a0.Client ≤ 1048576)))], [.box 26 [.i a0.Client, .i a0.Seq, .i a0.Kind, .d (.sl true a0.Pairs.length (vec api_Pair.e api_Pair.z a0.Pairs)), .i a0.Over.Lo, .i a0.Over.Hi, .i a0.Old]]⟩) (by kernel_rfl) ?_
    by_cases c2 : a0.Client ≤ 1048576
    · replace H := iteT (K := fun o => o) c2 H
      rw [decide_eq_true c2]
      refine go hT 5 [1, 16] (k' := K23 [1, 0, 14]) (st' := ⟨25, [(1, .ptr 0 0 0 0), (16, .b (decide (a0.Seq ≥ 1)))], [.box 26 [.i a0.Client, .i a0.Seq, .i a0.Kind, .d (.sl true a0.Pairs.length (vec api_Pair.e api_Pair.z a0.Pairs)), .i a0.Over.Lo, .i a0.Over.Hi, .i a0.Old]]⟩) (by kernel_rfl) ?_
      by_cases c3 : a0.Seq ≥ 1
      · replace H := iteT (K := fun o => o) c3 H
        rw [decide_eq_true c3]
        refine go hT 5 [1, 21] (k' := K23 [1, 0, 19]) (st' := ⟨25, [(1, .ptr 0 0 0 0), (21, .b (decide (a0.Seq ≤ 1073741824)))], [.box 26 [.i a0.Client, .i a0.Seq, .i a0.Kind, .d (.sl true a0.Pairs.length (vec api_Pair.e api_Pair.z a0.Pairs)), .i a0.Over.Lo, .i a0.Over.Hi, .i a0.Old]]⟩) (by kernel_rfl) ?_
        by_cases c4 : a0.Seq ≤ 1073741824
        · replace H := iteT (K := fun o => o) c4 H
          rw [decide_eq_true c4]
          refine go hT 1 [21, 22] (k' := K23 [1, 0, 20]) (st' := ⟨25, [(21, .b true), (22, .d (.agg [.v (.int .i64 a0.Client), .v (.int .i64 a0.Seq), .v (.int .i64 a0.Kind), .sl true a0.Pairs.length (vec api_Pair.e api_Pair.z a0.Pairs), .v (.int .i64 a0.Over.Lo), .v (.int .i64 a0.Over.Hi), .v (.int .i64 a0.Old)]))], [.box 26 [.i a0.Client, .i a0.Seq, .i a0.Kind, .d (.sl true a0.Pairs.length (vec api_Pair.e api_Pair.z a0.Pairs)), .i a0.Over.Lo, .i a0.Over.Hi, .i a0.Old]]⟩) (by kernel_rfl) ?_
          obtain ⟨v1, h5, H⟩ := bindC (K := fun o => o) rfl H
          refine ak_callP (avs := [.d (.agg [.v (.int .i64 a0.Client), .v (.int .i64 a0.Seq), .v (.int .i64 a0.Kind), .sl true a0.Pairs.length (vec api_Pair.e api_Pair.z a0.Pairs), .v (.int .i64 a0.Over.Lo), .v (.int .i64 a0.Over.Hi), .v (.int .i64 a0.Old)])]) (dst := some 23) (k' := K23 [1, 0, 21]) [21, 23] [] hP enters_52 (mut_kind.says (⟨a0.Client, a0.Seq, a0.Kind, a0.Pairs, (⟨a0.Over.Lo, a0.Over.Hi⟩ : api_Span), a0.Old⟩ : api_Mut) h5) (by kernel_rfl) (hands_none _) (.cons (pass_d _) .nil) (st' := ⟨25, [(21, .b true), (23, .b v1)], [.box 26 [.i a0.Client, .i a0.Seq, .i a0.Kind, .d (.sl true a0.Pairs.length (vec api_Pair.e api_Pair.z a0.Pairs)), .i a0.Over.Lo, .i a0.Over.Hi, .i a0.Old]]⟩) (by kernel_rfl) ?_
          refine go hT 3 [2] (k' := K23 [1, 1]) (st' := ⟨25, [(2, .b v1)], [.box 26 [.i a0.Client, .i a0.Seq, .i a0.Kind, .d (.sl true a0.Pairs.length (vec api_Pair.e api_Pair.z a0.Pairs)), .i a0.Over.Lo, .i a0.Over.Hi, .i a0.Old]]⟩) (by kernel_rfl) ?_
          refine ak_cut [2] [] (st' := ⟨25, [(2, .b v1)], []⟩) (by kernel_rfl) (by kernel_rfl) rfl (by decide) (by rw [h0]; rfl) ?_
          exact Jj1 v1 H
        · replace H := iteF (K := fun o => o) c4 H
          rw [decide_eq_false c4]
          refine go hT 5 [2] (k' := K23 [1, 1]) (st' := ⟨25, [(2, .b false)], [.box 26 [.i a0.Client, .i a0.Seq, .i a0.Kind, .d (.sl true a0.Pairs.length (vec api_Pair.e api_Pair.z a0.Pairs)), .i a0.Over.Lo, .i a0.Over.Hi, .i a0.Old]]⟩) (by kernel_rfl) ?_
          refine ak_cut [2] [] (st' := ⟨25, [(2, .b false)], []⟩) (by kernel_rfl) (by kernel_rfl) rfl (by decide) (by rw [h0]; rfl) ?_
          exact Jj1 false H
      · replace H := iteF (K := fun o => o) c3 H
        rw [decide_eq_false c3]
        refine go hT 10 [2] (k' := K23 [1, 1]) (st' := ⟨25, [(2, .b false)], [.box 26 [.i a0.Client, .i a0.Seq, .i a0.Kind, .d (.sl true a0.Pairs.length (vec api_Pair.e api_Pair.z a0.Pairs)), .i a0.Over.Lo, .i a0.Over.Hi, .i a0.Old]]⟩) (by kernel_rfl) ?_
        refine ak_cut [2] [] (st' := ⟨25, [(2, .b false)], []⟩) (by kernel_rfl) (by kernel_rfl) rfl (by decide) (by rw [h0]; rfl) ?_
        exact Jj1 false H
    · replace H := iteF (K := fun o => o) c2 H
      rw [decide_eq_false c2]
      refine go hT 15 [2] (k' := K23 [1, 1]) (st' := ⟨25, [(2, .b false)], [.box 26 [.i a0.Client, .i a0.Seq, .i a0.Kind, .d (.sl true a0.Pairs.length (vec api_Pair.e api_Pair.z a0.Pairs)), .i a0.Over.Lo, .i a0.Over.Hi, .i a0.Old]]⟩) (by kernel_rfl) ?_
      refine ak_cut [2] [] (st' := ⟨25, [(2, .b false)], []⟩) (by kernel_rfl) (by kernel_rfl) rfl (by decide) (by rw [h0]; rfl) ?_
      exact Jj1 false H
  · replace H := iteF (K := fun o => o) c1 H
    rw [decide_eq_false c1]
    refine go hT 20 [2] (k' := K23 [1, 1]) (st' := ⟨25, [(2, .b false)], [.box 26 [.i a0.Client, .i a0.Seq, .i a0.Kind, .d (.sl true a0.Pairs.length (vec api_Pair.e api_Pair.z a0.Pairs)), .i a0.Over.Lo, .i a0.Over.Hi, .i a0.Old]]⟩) (by kernel_rfl) ?_
    refine ak_cut [2] [] (st' := ⟨25, [(2, .b false)], []⟩) (by kernel_rfl) (by kernel_rfl) rfl (by decide) (by rw [h0]; rfl) ?_
    exact Jj1 false H


theorem spliceref03_One.says (a0 : spliceref03_Span) : Says Try.prog 53 [] [.d (.agg (spliceref03_Span.e a0))] [] (.b (spliceref03_One a0)) := by
  obtain ⟨r, H⟩ : ∃ r, spliceref03_One a0 = r := ⟨_, rfl⟩
  rw [H]
  refine says_of Try.func53 rfl (nt := 18) rfl (Nat.le_of_ble_eq_true rfl) fun X hP h0 hX => ?_
  have hT : TabOk X.P T := hP ▸ tok
  have hf : X.P.funcs[53]? = some Try.f53 := hP ▸ Try.func53
  have Jj1 : ∀ (y1_2 : Bool), (spliceref03_One.j1 y1_2) = r → AK X 53 (K53 [1, 1]) (Back X [] (.b r)) ⟨18, [(2, .b y1_2)], []⟩ := by
    intro y1_2 H
    obtain rfl := H
    exact ak_ret hf hX (av := .b y1_2) (by kernel_rfl) [] (sel_of_eq (by kernel_rfl)) (by decide) (by rw [h0]; rfl) (by kernel_rfl) (fun _ h => all_nil h) (.d (.v _))
  refine go hT 11 [1, 6] (k' := K53 [1, 0, 4]) (st' := ⟨18, [(1, .ptr 0 0 0 0), (6, .b (decide (a0.Lo ≥ 0)))], [.box 36 [.i a0.Lo, .i a0.Hi]]⟩) (by kernel_rfl) ?_
  by_cases c1 : a0.Lo ≥ 0
  · replace H := iteT (K := fun o => o) c1 H
    rw [decide_eq_true c1]
    refine go hT 7 [1, 13] (k' := K53 [1, 0, 11]) (st' := ⟨18, [(1, .ptr 0 0 0 0), (13, .b (decide (a0.Lo < a0.Hi)))], [.box 36 [.i a0.Lo, .i a0.Hi]]⟩) (by kernel_rfl) ?_
    by_cases c2 : a0.Lo < a0.Hi
    · replace H := iteT (K := fun o => o) c2 H
      rw [decide_eq_true c2]
      refine go hT 6 [2] (k' := K53 [1, 1]) (st' := ⟨18, [(2, .b (decide (a0.Hi ≤ 4096)))], [.box 36 [.i a0.Lo, .i a0.Hi]]⟩) (by kernel_rfl) ?_
      refine ak_cut [2] [] (st' := ⟨18, [(2, .b (decide (a0.Hi ≤ 4096)))], []⟩) (by kernel_rfl) (by kernel_rfl) rfl (by decide) (by rw [h0]; rfl) ?_
      exact Jj1 (decide (a0.Hi ≤ 4096)) H
    · replace H := iteF (K := fun o => o) c2 H
      rw [decide_eq_false c2]
      refine go hT 6 [2] (k' := K53 [1, 1]) (st' := ⟨18, [(2, .b false)], [.box 36 [.i a0.Lo, .i a0.Hi]]⟩) (by kernel_rfl) ?_
      refine ak_cut [2] [] (st' := ⟨18, [(2, .b false)], []⟩) (by kernel_rfl) (by kernel_rfl) rfl (by decide) (by rw [h0]; rfl) ?_
      exact Jj1 false H
  · replace H := iteF (K := fun o => o) c1 H
    rw [decide_eq_false c1]
    refine go hT 13 [2] (k' := K53 [1, 1]) (st' := ⟨18, [(2, .b false)], [.box 36 [.i a0.Lo, .i a0.Hi]]⟩) (by kernel_rfl) ?_
    refine ak_cut [2] [] (st' := ⟨18, [(2, .b false)], []⟩) (by kernel_rfl) (by kernel_rfl) rfl (by decide) (by rw [h0]; rfl) ?_
    exact Jj1 false H


theorem spliceref03_Check.says {t0 : Bool} (a0 : List spliceref03_Span) {r : Bool} (H : spliceref03_Check a0 = some r) : Says Try.prog 24 [] [.d (.sl t0 a0.length (vec spliceref03_Span.e spliceref03_Span.z a0))] [] (.b r) := by
  refine says_of Try.func24 rfl (nt := 37) rfl (Nat.le_of_ble_eq_true rfl) fun X hP h0 hX => ?_
  have hT : TabOk X.P T := hP ▸ tok
  have hf : X.P.funcs[24]? = some Try.f24 := hP ▸ Try.func24
  refine go hT 11 [0, 3] (k' := K24 [1, 0, 1, 0, 0]) (st' := ⟨37, [(0, .d (.sl t0 a0.length (vec spliceref03_Span.e spliceref03_Span.z a0))), (3, .i 0)], []⟩) (by kernel_rfl) ?_
  have L : ∀ n, (∀ (x1_3 : Int), iter (spliceref03_Check.step a0) n (.l1 x1_3) = some r → AK X 24 (K24 [1, 0, 1, 0, 0]) (Back X [] (.b r)) ⟨37, [(0, .d (.sl t0 a0.length (vec spliceref03_Span.e spliceref03_Span.z a0))), (3, .i x1_3)], []⟩) := by
    intro n
    induction n with
    | zero => exact fun _ H => iter0 H
    | succ n ih =>
      · intro x1_3 H
        refine go hT 8 [0, 3, 7] (k' := K24 [1, 0, 1, 0, 0, 0, 1]) (st' := ⟨37, [(0, .d (.sl t0 a0.length (vec spliceref03_Span.e spliceref03_Span.z a0))), (3, .i x1_3), (7, .b (decide (x1_3 < (a0.length : Int))))], []⟩) (by kernel_rfl) ?_
        by_cases c1 : x1_3 < (a0.length : Int)
        · replace H := iteT (K := fun o => stk o (iter (spliceref03_Check.step a0) n)) c1 H
          rw [decide_eq_true c1]
          refine go hT 2 [0, 3] (k' := K24 [1, 0, 1, 0, 0, 1]) (st' := ⟨37, [(0, .d (.sl t0 a0.length (vec spliceref03_Span.e spliceref03_Span.z a0))), (3, .i x1_3)], []⟩) (by kernel_rfl) ?_
          refine go hT 3 [0, 3] (k' := K24 [1, 0, 1, 0, 0, 1, 0, 0, 0]) (st' := ⟨37, [(0, .d (.sl t0 a0.length (vec spliceref03_Span.e spliceref03_Span.z a0))), (3, .i x1_3)], []⟩) (by kernel_rfl) ?_
          obtain ⟨h2, H⟩ := iteC (K := fun o => stk o (iter (spliceref03_Check.step a0) n)) rfl H
          have Jj1 : ∀ (y1_33 : Bool), stk (spliceref03_Check.j1 x1_3 y1_33) (iter (spliceref03_Check.step a0) n) = some r → AK X 24 (K24 [1, 0, 1, 0, 0, 1, 0, 0, 1]) (Back X [] (.b r)) ⟨37, [(0, .d (.sl t0 a0.length (vec spliceref03_Span.e spliceref03_Span.z a0))), (3, .i x1_3), (33, .b y1_33)], []⟩ := by
            intro y1_33 H
            by_cases c6 : y1_33 = true
            · replace H := iteT (K := fun o => stk o (iter (spliceref03_Check.step a0) n)) c6 H
              rw [c6]
              refine go hT 5 [2] (k' := K24 [1, 0, 1, 0, 0, 1, 0, 0, 1, 0, 1]) (st' := ⟨37, [(2, .b false)], []⟩) (by kernel_rfl) ?_
              obtain rfl := retC H
              exact ak_ret hf hX (av := .b false) (by kernel_rfl) [] (sel_of_eq (by kernel_rfl)) (by decide) (by rw [h0]; rfl) (by kernel_rfl) (fun _ h => all_nil h) (.d (.v _))
            · replace H := iteF (K := fun o => stk o (iter (spliceref03_Check.step a0) n)) c6 H
              rw [boF c6]
              refine go hT 3 [0, 3] (k' := K24 [1, 0, 1, 0, 0, 1, 1]) (st' := ⟨37, [(0, .d (.sl t0 a0.length (vec spliceref03_Span.e spliceref03_Span.z a0))), (3, .i x1_3)], []⟩) (by kernel_rfl) ?_
              refine go hT 6 [0, 3] (k' := K24 [1, 0, 1, 0, 0]) (st' := ⟨37, [(0, .d (.sl t0 a0.length (vec spliceref03_Span.e spliceref03_Span.z a0))), (3, .i (IntKind.wrap .i64 (x1_3 + 1)))], []⟩) (by kernel_rfl) ?_
              refine ak_cut [0, 3] [] (st' := ⟨37, [(0, .d (.sl t0 a0.length (vec spliceref03_Span.e spliceref03_Span.z a0))), (3, .i (IntKind.wrap .i64 (x1_3 + 1)))], []⟩) (by kernel_rfl) (by kernel_rfl) rfl (by decide) (by rw [h0]; rfl) ?_
              exact ih (IntKind.wrap .i64 (x1_3 + 1)) H
          by_cases c3 : (spliceref03_One (a0.getD x1_3.toNat spliceref03_Span.z)) = true
          · replace H := iteT (K := fun o => stk o (iter (spliceref03_Check.step a0) n)) c3 H
            by_cases c4 : x1_3 > 0
            · replace H := iteT (K := fun o => stk o (iter (spliceref03_Check.step a0) n)) c4 H
              obtain ⟨h5, H⟩ := iteC (K := fun o => stk o (iter (spliceref03_Check.step a0) n)) rfl H
              refine ak_drawAt (nt := 37) (rows := []) (hP ▸ mixed) 24 [0, 3] [(0, .d (.sl t0 a0.length (vec spliceref03_Span.e spliceref03_Span.z a0))), (3, .i x1_3)] [some (.d (.sl t0 a0.length (vec spliceref03_Span.e spliceref03_Span.z a0))), some (.i x1_3), some (.d (.rop t0 a0.length (vec spliceref03_Span.e spliceref03_Span.z a0) x1_3.toNat 0)), some (.d (.agg (spliceref03_Span.e (a0.getD x1_3.toNat spliceref03_Span.z)))), some (.b true), some (.b false), some (.b false), some (.i x1_3), some (.b true), some (.b true), some (.d (.sl t0 a0.length (vec spliceref03_Span.e spliceref03_Span.z a0))), some (.i x1_3), some (.d (.rop t0 a0.length (vec spliceref03_Span.e spliceref03_Span.z a0) x1_3.toNat 0)), some (.d (.rop t0 a0.length (vec spliceref03_Span.e spliceref03_Span.z a0) x1_3.toNat 0)), some (.i ((a0.getD x1_3.toNat spliceref03_Span.z).Lo)), some (.d (.sl t0 a0.length (vec spliceref03_Span.e spliceref03_Span.z a0))), some (.i x1_3), some (.i (IntKind.wrap .i64 (x1_3 - 1))), some (.d (.rop t0 a0.length (vec spliceref03_Span.e spliceref03_Span.z a0) ((IntKind.wrap .i64 (x1_3 - 1)).toNat) 0)), some (.d (.rop t0 a0.length (vec spliceref03_Span.e spliceref03_Span.z a0) ((IntKind.wrap .i64 (x1_3 - 1)).toNat) 1)), some (.i ((a0.getD ((IntKind.wrap .i64 (x1_3 - 1)).toNat) spliceref03_Span.z).Hi)), some (.b (decide (((a0.getD x1_3.toNat spliceref03_Span.z).Lo) ≤ ((a0.getD ((IntKind.wrap .i64 (x1_3 - 1)).toNat) spliceref03_Span.z).Hi)))), some (.b (decide (((a0.getD x1_3.toNat spliceref03_Span.z).Lo) ≤ ((a0.getD ((IntKind.wrap .i64 (x1_3 - 1)).toNat) spliceref03_Span.z).Hi)))), some (.b (decide (((a0.getD x1_3.toNat spliceref03_Span.z).Lo) ≤ ((a0.getD ((IntKind.wrap .i64 (x1_3 - 1)).toNat) spliceref03_Span.z).Hi))))] (by kernel_rfl) (by kernel_rfl) (by kernel_rfl) (opS (opS (opS (opS (opS (opS (opS (opS (opS (opS (opS (opS (opS (opS (opS (opS (opS (opS (opS (opS (opS (opS (opS (opS op0 (op_go hT fun R rest => by kernel_rfl)) (op_go hT fun R rest => by kernel_rfl)) (fun R rest h => ak_idx0 hT (i := x1_3) (n := (a0.length : Int)) h2.1 h2.2 (by kernel_rfl) h)) (op_go hT fun R rest => by kernel_rfl)) (fun R rest h => ak_callD (avs := [.d (.agg (spliceref03_Span.e (a0.getD x1_3.toNat spliceref03_Span.z)))]) (dst := some 14) hP enters_53 (by have q := spliceref03_One.says (a0.getD x1_3.toNat spliceref03_Span.z); rw [c3] at q; exact q) (by kernel_rfl) (.cons (pass_d _) .nil) (by kernel_rfl) h)) (op_go hT fun R rest => by kernel_rfl)) (op_go hT fun R rest => by kernel_rfl)) (op_go hT fun R rest => by kernel_rfl)) (op_goE hT (st' := fun R rest => ⟨37, (18, .b (decide (x1_3 > 0))) :: needOf (opsAt (K24 [1, 0, 1, 0, 0, 1, 0, 0, 0])) [(0, .d (.sl t0 a0.length (vec spliceref03_Span.e spliceref03_Span.z a0))), (3, .i x1_3)] [some (.d (.sl t0 a0.length (vec spliceref03_Span.e spliceref03_Span.z a0))), some (.i x1_3), some (.d (.rop t0 a0.length (vec spliceref03_Span.e spliceref03_Span.z a0) x1_3.toNat 0)), some (.d (.agg (spliceref03_Span.e (a0.getD x1_3.toNat spliceref03_Span.z)))), some (.b true), some (.b false), some (.b false), some (.i x1_3), some (.b true), some (.b true), some (.d (.sl t0 a0.length (vec spliceref03_Span.e spliceref03_Span.z a0))), some (.i x1_3), some (.d (.rop t0 a0.length (vec spliceref03_Span.e spliceref03_Span.z a0) x1_3.toNat 0)), some (.d (.rop t0 a0.length (vec spliceref03_Span.e spliceref03_Span.z a0) x1_3.toNat 0)), some (.i ((a0.getD x1_3.toNat spliceref03_Span.z).Lo)), some (.d (.sl t0 a0.length (vec spliceref03_Span.e spliceref03_Span.z a0))), some (.i x1_3), some (.i (IntKind.wrap .i64 (x1_3 - 1))), some (.d (.rop t0 a0.length (vec spliceref03_Span.e spliceref03_Span.z a0) ((IntKind.wrap .i64 (x1_3 - 1)).toNat) 0)), some (.d (.rop t0 a0.length (vec spliceref03_Span.e spliceref03_Span.z a0) ((IntKind.wrap .i64 (x1_3 - 1)).toNat) 1)), some (.i ((a0.getD ((IntKind.wrap .i64 (x1_3 - 1)).toNat) spliceref03_Span.z).Hi)), some (.b (decide (((a0.getD x1_3.toNat spliceref03_Span.z).Lo) ≤ ((a0.getD ((IntKind.wrap .i64 (x1_3 - 1)).toNat) spliceref03_Span.z).Hi)))), some (.b (decide (((a0.getD x1_3.toNat spliceref03_Span.z).Lo) ≤ ((a0.getD ((IntKind.wrap .i64 (x1_3 - 1)).toNat) spliceref03_Span.z).Hi)))), some (.b (decide (((a0.getD x1_3.toNat spliceref03_Span.z).Lo) ≤ ((a0.getD ((IntKind.wrap .i64 (x1_3 - 1)).toNat) spliceref03_Span.z).Hi))))] 8 ++ rest, []⟩) (fun R rest => by kernel_rfl) (fun R rest => by rw [decide_eq_true c4]; first | done | rfl))) (op_go hT fun R rest => by kernel_rfl)) (op_go hT fun R rest => by kernel_rfl)) (op_go hT fun R rest => by kernel_rfl)) (fun R rest h => ak_idx0 hT (i := x1_3) (n := (a0.length : Int)) h2.1 h2.2 (by kernel_rfl) h)) (op_go hT fun R rest => by kernel_rfl)) (op_go hT fun R rest => by kernel_rfl)) (op_go hT fun R rest => by kernel_rfl)) (op_go hT fun R rest => by kernel_rfl)) (op_go hT fun R rest => by kernel_rfl)) (fun R rest h => ak_idx0 hT (i := IntKind.wrap .i64 (x1_3 - 1)) (n := (a0.length : Int)) h5.1 h5.2 (by kernel_rfl) h)) (op_go hT fun R rest => by kernel_rfl)) (op_go hT fun R rest => by kernel_rfl)) (op_go hT fun R rest => by kernel_rfl)) (op_go hT fun R rest => by kernel_rfl)) (op_go hT fun R rest => by kernel_rfl)) ?_
              refine go hT 1 [0, 3, 33] (k' := K24 [1, 0, 1, 0, 0, 1, 0, 0, 1]) (st' := ⟨37, [(0, .d (.sl t0 a0.length (vec spliceref03_Span.e spliceref03_Span.z a0))), (3, .i x1_3), (33, .b (decide (((a0.getD x1_3.toNat spliceref03_Span.z).Lo) ≤ ((a0.getD ((IntKind.wrap .i64 (x1_3 - 1)).toNat) spliceref03_Span.z).Hi))))], []⟩) (by kernel_rfl) ?_
              refine ak_cut [0, 3, 33] [] (st' := ⟨37, [(0, .d (.sl t0 a0.length (vec spliceref03_Span.e spliceref03_Span.z a0))), (3, .i x1_3), (33, .b (decide (((a0.getD x1_3.toNat spliceref03_Span.z).Lo) ≤ ((a0.getD ((IntKind.wrap .i64 (x1_3 - 1)).toNat) spliceref03_Span.z).Hi))))], []⟩) (by kernel_rfl) (by kernel_rfl) rfl (by decide) (by rw [h0]; rfl) ?_
              exact Jj1 (decide (((a0.getD x1_3.toNat spliceref03_Span.z).Lo) ≤ ((a0.getD ((IntKind.wrap .i64 (x1_3 - 1)).toNat) spliceref03_Span.z).Hi))) H
            · replace H := iteF (K := fun o => stk o (iter (spliceref03_Check.step a0) n)) c4 H
              refine ak_drawAt (nt := 37) (rows := []) (hP ▸ mixed) 24 [0, 3] [(0, .d (.sl t0 a0.length (vec spliceref03_Span.e spliceref03_Span.z a0))), (3, .i x1_3)] [some (.d (.sl t0 a0.length (vec spliceref03_Span.e spliceref03_Span.z a0))), some (.i x1_3), some (.d (.rop t0 a0.length (vec spliceref03_Span.e spliceref03_Span.z a0) x1_3.toNat 0)), some (.d (.agg (spliceref03_Span.e (a0.getD x1_3.toNat spliceref03_Span.z)))), some (.b true), some (.b false), some (.b false), some (.i x1_3), some (.b false), some (.b false), some (.tup []), some (.tup []), some (.tup []), some (.tup []), some (.tup []), some (.tup []), some (.tup []), some (.tup []), some (.tup []), some (.tup []), some (.tup []), some (.tup []), some (.b false), some (.b false)] (by kernel_rfl) (by kernel_rfl) (by kernel_rfl) (opS (opS (opS (opS (opS (opS (opS (opS (opS (opS (opS (opS (opS (opS (opS (opS (opS (opS (opS (opS (opS (opS (opS (opS op0 (op_go hT fun R rest => by kernel_rfl)) (op_go hT fun R rest => by kernel_rfl)) (fun R rest h => ak_idx0 hT (i := x1_3) (n := (a0.length : Int)) h2.1 h2.2 (by kernel_rfl) h)) (op_go hT fun R rest => by kernel_rfl)) (fun R rest h => ak_callD (avs := [.d (.agg (spliceref03_Span.e (a0.getD x1_3.toNat spliceref03_Span.z)))]) (dst := some 14) hP enters_53 (by have q := spliceref03_One.says (a0.getD x1_3.toNat spliceref03_Span.z); rw [c3] at q; exact q) (by kernel_rfl) (.cons (pass_d _) .nil) (by kernel_rfl) h)) (op_go hT fun R rest => by kernel_rfl)) (op_go hT fun R rest => by kernel_rfl)) (op_go hT fun R rest => by kernel_rfl)) (op_goE hT (st' := fun R rest => ⟨37, (18, .b (decide (x1_3 > 0))) :: needOf (opsAt (K24 [1, 0, 1, 0, 0, 1, 0, 0, 0])) [(0, .d (.sl t0 a0.length (vec spliceref03_Span.e spliceref03_Span.z a0))), (3, .i x1_3)] [some (.d (.sl t0 a0.length (vec spliceref03_Span.e spliceref03_Span.z a0))), some (.i x1_3), some (.d (.rop t0 a0.length (vec spliceref03_Span.e spliceref03_Span.z a0) x1_3.toNat 0)), some (.d (.agg (spliceref03_Span.e (a0.getD x1_3.toNat spliceref03_Span.z)))), some (.b true), some (.b false), some (.b false), some (.i x1_3), some (.b false), some (.b false), some (.tup []), some (.tup []), some (.tup []), some (.tup []), some (.tup []), some (.tup []), some (.tup []), some (.tup []), some (.tup []), some (.tup []), some (.tup []), some (.tup []), some (.b false), some (.b false)] 8 ++ rest, []⟩) (fun R rest => by kernel_rfl) (fun R rest => by rw [decide_eq_false c4]; first | done | rfl))) (op_go hT fun R rest => by kernel_rfl)) (op_go hT fun R rest => by kernel_rfl)) (op_go hT fun R rest => by kernel_rfl)) (op_go hT fun R rest => by kernel_rfl)) (op_go hT fun R rest => by kernel_rfl)) (op_go hT fun R rest => by kernel_rfl)) (op_go hT fun R rest => by kernel_rfl)) (op_go hT fun R rest => by kernel_rfl)) (op_go hT fun R rest => by kernel_rfl)) (op_go hT fun R rest => by kernel_rfl)) (op_go hT fun R rest => by kernel_rfl)) (op_go hT fun R rest => by kernel_rfl)) (op_go hT fun R rest => by kernel_rfl)) (op_go hT fun R rest => by kernel_rfl)) (op_go hT fun R rest => by kernel_rfl)) ?_
              refine go hT 1 [0, 3, 33] (k' := K24 [1, 0, 1, 0, 0, 1, 0, 0, 1]) (st' := ⟨37, [(0, .d (.sl t0 a0.length (vec spliceref03_Span.e spliceref03_Span.z a0))), (3, .i x1_3), (33, .b false)], []⟩) (by kernel_rfl) ?_
              refine ak_cut [0, 3, 33] [] (st' := ⟨37, [(0, .d (.sl t0 a0.length (vec spliceref03_Span.e spliceref03_Span.z a0))), (3, .i x1_3), (33, .b false)], []⟩) (by kernel_rfl) (by kernel_rfl) rfl (by decide) (by rw [h0]; rfl) ?_
              exact Jj1 false H
          · replace H := iteF (K := fun o => stk o (iter (spliceref03_Check.step a0) n)) c3 H
            refine ak_drawAt (nt := 37) (rows := []) (hP ▸ mixed) 24 [0, 3] [(0, .d (.sl t0 a0.length (vec spliceref03_Span.e spliceref03_Span.z a0))), (3, .i x1_3)] [some (.d (.sl t0 a0.length (vec spliceref03_Span.e spliceref03_Span.z a0))), some (.i x1_3), some (.d (.rop t0 a0.length (vec spliceref03_Span.e spliceref03_Span.z a0) x1_3.toNat 0)), some (.d (.agg (spliceref03_Span.e (a0.getD x1_3.toNat spliceref03_Span.z)))), some (.b false), some (.b true), some (.b true), some (.tup []), some (.tup []), some (.tup []), some (.tup []), some (.tup []), some (.tup []), some (.tup []), some (.tup []), some (.tup []), some (.tup []), some (.tup []), some (.tup []), some (.tup []), some (.tup []), some (.tup []), some (.tup []), some (.b true)] (by kernel_rfl) (by kernel_rfl) (by kernel_rfl) (opS (opS (opS (opS (opS (opS (opS (opS (opS (opS (opS (opS (opS (opS (opS (opS (opS (opS (opS (opS (opS (opS (opS (opS op0 (op_go hT fun R rest => by kernel_rfl)) (op_go hT fun R rest => by kernel_rfl)) (fun R rest h => ak_idx0 hT (i := x1_3) (n := (a0.length : Int)) h2.1 h2.2 (by kernel_rfl) h)) (op_go hT fun R rest => by kernel_rfl)) (fun R rest h => ak_callD (avs := [.d (.agg (spliceref03_Span.e (a0.getD x1_3.toNat spliceref03_Span.z)))]) (dst := some 14) hP enters_53 (by have q := spliceref03_One.says (a0.getD x1_3.toNat spliceref03_Span.z); rw [boF c3] at q; exact q) (by kernel_rfl) (.cons (pass_d _) .nil) (by kernel_rfl) h)) (op_go hT fun R rest => by kernel_rfl)) (op_go hT fun R rest => by kernel_rfl)) (op_go hT fun R rest => by kernel_rfl)) (op_go hT fun R rest => by kernel_rfl)) (op_go hT fun R rest => by kernel_rfl)) (op_go hT fun R rest => by kernel_rfl)) (op_go hT fun R rest => by kernel_rfl)) (op_go hT fun R rest => by kernel_rfl)) (op_go hT fun R rest => by kernel_rfl)) (op_go hT fun R rest => by kernel_rfl)) (op_go hT fun R rest => by kernel_rfl)) (op_go hT fun R rest => by kernel_rfl)) (op_go hT fun R rest => by kernel_rfl)) (op_go hT fun R rest => by kernel_rfl)) (op_go hT fun R rest => by kernel_rfl)) (op_go hT fun R rest => by kernel_rfl)) (op_go hT fun R rest => by kernel_rfl)) (op_go hT fun R rest => by kernel_rfl)) (op_go hT fun R rest => by kernel_rfl)) ?_
            refine go hT 1 [0, 3, 33] (k' := K24 [1, 0, 1, 0, 0, 1, 0, 0, 1]) (st' := ⟨37, [(0, .d (.sl t0 a0.length (vec spliceref03_Span.e spliceref03_Span.z a0))), (3, .i x1_3), (33, .b true)], []⟩) (by kernel_rfl) ?_
            refine ak_cut [0, 3, 33] [] (st' := ⟨37, [(0, .d (.sl t0 a0.length (vec spliceref03_Span.e spliceref03_Span.z a0))), (3, .i x1_3), (33, .b true)], []⟩) (by kernel_rfl) (by kernel_rfl) rfl (by decide) (by rw [h0]; rfl) ?_
            exact Jj1 true H
        · replace H := iteF (K := fun o => stk o (iter (spliceref03_Check.step a0) n)) c1 H
          rw [decide_eq_false c1]
          refine go hT 9 [2] (k' := K24 [1, 1, 1]) (st' := ⟨37, [(2, .b (decide ((a0.length : Int) ≤ 64)))], []⟩) (by kernel_rfl) ?_
          obtain rfl := retC H
          exact ak_ret hf hX (av := .b (decide ((a0.length : Int) ≤ 64))) (by kernel_rfl) [] (sel_of_eq (by kernel_rfl)) (by decide) (by rw [h0]; rfl) (by kernel_rfl) (fun _ h => all_nil h) (.d (.v _))
  refine ak_cut [0, 3] [] (st' := ⟨37, [(0, .d (.sl t0 a0.length (vec spliceref03_Span.e spliceref03_Span.z a0))), (3, .i 0)], []⟩) (by kernel_rfl) (by kernel_rfl) rfl (by decide) (by rw [h0]; rfl) ?_
  obtain ⟨n, H⟩ := loopC H
  exact (L n) 0 H


theorem slices_IndexFunc_api_Span.says {t0 : Bool} {ff1 : FuncId} {cc1 : List DV} (a0 : List api_Span) (p1 : api_Span → Option Bool) (he1 : Sy.Enters Try.prog ff1) (hp1 : ∀ (z0 : api_Span) r, p1 z0 = some r → Says Try.prog ff1 [] ([.d (.agg (api_Span.e z0))] ++ List.map AV.d cc1) [] (.b r)) {r : Int} (H : slices_IndexFunc_api_Span a0 p1 = some r) : Says Try.prog 91 [] [.d (.sl t0 a0.length (vec api_Span.e api_Span.z a0)), .d (.fn ff1 cc1)] [] (.i r) := by
  refine says_of Try.func91 rfl (nt := 19) rfl (Nat.le_of_ble_eq_true rfl) fun X hP h0 hX => ?_
  have hT : TabOk X.P T := hP ▸ tok
  have hf : X.P.funcs[91]? = some Try.f91 := hP ▸ Try.func91
  refine go hT 13 [0, 1, 7, 8] (k' := K91 [1, 0, 1, 0, 0]) (st' := ⟨19, [(0, .d (.sl t0 a0.length (vec api_Span.e api_Span.z a0))), (1, .d (.fn ff1 cc1)), (7, .i (a0.length : Int)), (8, .i 0)], []⟩) (by kernel_rfl) ?_
  have L : ∀ n, (∀ (x1_8 : Int), iter (slices_IndexFunc_api_Span.step a0 p1) n (.l1 x1_8) = some r → AK X 91 (K91 [1, 0, 1, 0, 0]) (Back X [] (.i r)) ⟨19, [(0, .d (.sl t0 a0.length (vec api_Span.e api_Span.z a0))), (1, .d (.fn ff1 cc1)), (7, .i (a0.length : Int)), (8, .i x1_8)], []⟩) := by
    intro n
    induction n with
    | zero => exact fun _ H => iter0 H
    | succ n ih =>
      · intro x1_8 H
        refine go hT 5 [0, 1, 7, 8, 9] (k' := K91 [1, 0, 1, 0, 0, 1, 0]) (st' := ⟨19, [(0, .d (.sl t0 a0.length (vec api_Span.e api_Span.z a0))), (1, .d (.fn ff1 cc1)), (7, .i (a0.length : Int)), (8, .i x1_8), (9, .b (decide (x1_8 < (a0.length : Int))))], []⟩) (by kernel_rfl) ?_
        by_cases c1 : x1_8 < (a0.length : Int)
        · replace H := iteT (K := fun o => stk o (iter (slices_IndexFunc_api_Span.step a0 p1) n)) c1 H
          rw [decide_eq_true c1]
          refine go hT 2 [0, 1, 7, 8] (k' := K91 [1, 0, 1, 0, 0, 1, 1]) (st' := ⟨19, [(0, .d (.sl t0 a0.length (vec api_Span.e api_Span.z a0))), (1, .d (.fn ff1 cc1)), (7, .i (a0.length : Int)), (8, .i x1_8)], []⟩) (by kernel_rfl) ?_
          refine go hT 12 [0, 1, 5, 7, 8, 11, 12, 13] (k' := K91 [1, 0, 1, 0, 0, 1, 1, 0, 0, 1, 0, 3]) (st' := ⟨19, [(0, .d (.sl t0 a0.length (vec api_Span.e api_Span.z a0))), (1, .d (.fn ff1 cc1)), (5, .i x1_8), (7, .i (a0.length : Int)), (8, .i x1_8), (11, .d (.fn ff1 cc1)), (12, .d (.sl t0 a0.length (vec api_Span.e api_Span.z a0))), (13, .i x1_8)], []⟩) (by kernel_rfl) ?_
          obtain ⟨h2, H⟩ := iteC (K := fun o => stk o (iter (slices_IndexFunc_api_Span.step a0 p1) n)) rfl H
          refine ak_idx hT [0, 1, 5, 7, 8, 11, 14] (i := x1_8) (n := (a0.length : Int)) h2.1 h2.2 (k' := K91 [1, 0, 1, 0, 0, 1, 1, 0, 0, 1, 0, 4]) (st' := ⟨19, [(0, .d (.sl t0 a0.length (vec api_Span.e api_Span.z a0))), (1, .d (.fn ff1 cc1)), (5, .i x1_8), (7, .i (a0.length : Int)), (8, .i x1_8), (11, .d (.fn ff1 cc1)), (14, .d (.rop t0 a0.length (vec api_Span.e api_Span.z a0) x1_8.toNat 0))], []⟩) (by kernel_rfl) ?_
          refine go hT 1 [0, 1, 5, 7, 8, 11, 15] (k' := K91 [1, 0, 1, 0, 0, 1, 1, 0, 0, 1, 0, 5]) (st' := ⟨19, [(0, .d (.sl t0 a0.length (vec api_Span.e api_Span.z a0))), (1, .d (.fn ff1 cc1)), (5, .i x1_8), (7, .i (a0.length : Int)), (8, .i x1_8), (11, .d (.fn ff1 cc1)), (15, .d (.agg (api_Span.e (a0.getD x1_8.toNat api_Span.z))))], []⟩) (by kernel_rfl) ?_
          obtain ⟨v1, h3, H⟩ := bindC (K := fun o => stk o (iter (slices_IndexFunc_api_Span.step a0 p1) n)) rfl H
          refine ak_callP (avs := [.d (.agg (api_Span.e (a0.getD x1_8.toNat api_Span.z)))] ++ List.map AV.d cc1) (dst := some 16) (k' := K91 [1, 0, 1, 0, 0, 1, 1, 0, 0, 1, 0, 6]) [0, 1, 5, 7, 8, 16] [] hP he1 (hp1 (a0.getD x1_8.toNat api_Span.z) v1 h3) (by kernel_rfl) (hands_none _) (.cons (pass_d _) (passes_d _)) (st' := ⟨19, [(0, .d (.sl t0 a0.length (vec api_Span.e api_Span.z a0))), (1, .d (.fn ff1 cc1)), (5, .i x1_8), (7, .i (a0.length : Int)), (8, .i x1_8), (16, .b v1)], []⟩) (by kernel_rfl) ?_
          refine go hT 1 [0, 1, 5, 7, 8, 16] (k' := K91 [1, 0, 1, 0, 0, 1, 1, 0, 0, 1, 1]) (st' := ⟨19, [(0, .d (.sl t0 a0.length (vec api_Span.e api_Span.z a0))), (1, .d (.fn ff1 cc1)), (5, .i x1_8), (7, .i (a0.length : Int)), (8, .i x1_8), (16, .b v1)], []⟩) (by kernel_rfl) ?_
          by_cases c4 : v1 = true
          · replace H := iteT (K := fun o => stk o (iter (slices_IndexFunc_api_Span.step a0 p1) n)) c4 H
            rw [c4]
            refine go hT 6 [4] (k' := K91 [1, 0, 1, 0, 0, 1, 1, 0, 0, 1, 1, 0, 1]) (st' := ⟨19, [(4, .i x1_8)], []⟩) (by kernel_rfl) ?_
            obtain rfl := retC H
            exact ak_ret hf hX (av := .i x1_8) (by kernel_rfl) [] (sel_of_eq (by kernel_rfl)) (by decide) (by rw [h0]; rfl) (by kernel_rfl) (fun _ h => all_nil h) (.d (.v _))
          · replace H := iteF (K := fun o => stk o (iter (slices_IndexFunc_api_Span.step a0 p1) n)) c4 H
            rw [boF c4]
            refine go hT 3 [0, 1, 7, 8] (k' := K91 [1, 0, 1, 0, 0, 1, 1, 1]) (st' := ⟨19, [(0, .d (.sl t0 a0.length (vec api_Span.e api_Span.z a0))), (1, .d (.fn ff1 cc1)), (7, .i (a0.length : Int)), (8, .i x1_8)], []⟩) (by kernel_rfl) ?_
            refine go hT 5 [0, 1, 7, 8] (k' := K91 [1, 0, 1, 0, 0]) (st' := ⟨19, [(0, .d (.sl t0 a0.length (vec api_Span.e api_Span.z a0))), (1, .d (.fn ff1 cc1)), (7, .i (a0.length : Int)), (8, .i (IntKind.wrap .i64 (x1_8 + 1)))], []⟩) (by kernel_rfl) ?_
            refine ak_cut [0, 1, 7, 8] [] (st' := ⟨19, [(0, .d (.sl t0 a0.length (vec api_Span.e api_Span.z a0))), (1, .d (.fn ff1 cc1)), (7, .i (a0.length : Int)), (8, .i (IntKind.wrap .i64 (x1_8 + 1)))], []⟩) (by kernel_rfl) (by kernel_rfl) rfl (by decide) (by rw [h0]; rfl) ?_
            exact ih (IntKind.wrap .i64 (x1_8 + 1)) H
        · replace H := iteF (K := fun o => stk o (iter (slices_IndexFunc_api_Span.step a0 p1) n)) c1 H
          rw [decide_eq_false c1]
          refine go hT 6 [4] (k' := K91 [1, 1, 1]) (st' := ⟨19, [(4, .i (-1))], []⟩) (by kernel_rfl) ?_
          obtain rfl := retC H
          exact ak_ret hf hX (av := .i (-1)) (by kernel_rfl) [] (sel_of_eq (by kernel_rfl)) (by decide) (by rw [h0]; rfl) (by kernel_rfl) (fun _ h => all_nil h) (.d (.v _))
  refine ak_cut [0, 1, 7, 8] [] (st' := ⟨19, [(0, .d (.sl t0 a0.length (vec api_Span.e api_Span.z a0))), (1, .d (.fn ff1 cc1)), (7, .i (a0.length : Int)), (8, .i 0)], []⟩) (by kernel_rfl) (by kernel_rfl) rfl (by decide) (by rw [h0]; rfl) ?_
  obtain ⟨n, H⟩ := loopC H
  exact (L n) 0 H


theorem slices_ContainsFunc_api_Span.says {t0 : Bool} {ff1 : FuncId} {cc1 : List DV} (a0 : List api_Span) (p1 : api_Span → Option Bool) (he1 : Sy.Enters Try.prog ff1) (hp1 : ∀ (z0 : api_Span) r, p1 z0 = some r → Says Try.prog ff1 [] ([.d (.agg (api_Span.e z0))] ++ List.map AV.d cc1) [] (.b r)) {r : Bool} (H : slices_ContainsFunc_api_Span a0 p1 = some r) : Says Try.prog 54 [] [.d (.sl t0 a0.length (vec api_Span.e api_Span.z a0)), .d (.fn ff1 cc1)] [] (.b r) := by
  refine says_of Try.func54 rfl (nt := 9) rfl (Nat.le_of_ble_eq_true rfl) fun X hP h0 hX => ?_
  have hT : TabOk X.P T := hP ▸ tok
  have hf : X.P.funcs[54]? = some Try.f54 := hP ▸ Try.func54
  refine go hT 8 [5, 6] (k' := K54 [1, 0, 2]) (st' := ⟨9, [(5, .d (.sl t0 a0.length (vec api_Span.e api_Span.z a0))), (6, .d (.fn ff1 cc1))], []⟩) (by kernel_rfl) ?_
  obtain ⟨v1, h1, H⟩ := bindC (K := fun o => o) rfl H
  refine ak_callP (avs := [.d (.sl t0 a0.length (vec api_Span.e api_Span.z a0)), .d (.fn ff1 cc1)]) (dst := some 7) (k' := K54 [1, 0, 3]) [7] [] hP enters_91 (slices_IndexFunc_api_Span.says (t0 := t0) (ff1 := ff1) (cc1 := cc1) a0 p1 he1 hp1 h1) (by kernel_rfl) (hands_none _) (.cons (pass_d _) (.cons (pass_d _) .nil)) (st' := ⟨9, [(7, .i v1)], []⟩) (by kernel_rfl) ?_
  refine go hT 3 [4] (k' := K54 [1, 1]) (st' := ⟨9, [(4, .b (decide (v1 ≥ 0)))], []⟩) (by kernel_rfl) ?_
  obtain rfl := retC H
  exact ak_ret hf hX (av := .b (decide (v1 ≥ 0))) (by kernel_rfl) [] (sel_of_eq (by kernel_rfl)) (by decide) (by rw [h0]; rfl) (by kernel_rfl) (fun _ h => all_nil h) (.d (.v _))


theorem span_Has_1.says (a0 : api_Span) (k0 : Int) : Says Try.prog 55 [] [.d (.agg (api_Span.e a0)), .d (.rop false 1 (fun _ => [.v (.int .i64 k0)]) 0 0)] [] (.b (span_Has_1 a0 k0)) := by
  obtain ⟨r, H⟩ : ∃ r, span_Has_1 a0 k0 = r := ⟨_, rfl⟩
  rw [H]
  refine says_of Try.func55 rfl (nt := 18) rfl (Nat.le_of_ble_eq_true rfl) fun X hP h0 hX => ?_
  have hT : TabOk X.P T := hP ▸ tok
  have hf : X.P.funcs[55]? = some Try.f55 := hP ▸ Try.func55
  have Jj1 : ∀ (y1_3 : Bool), (span_Has_1.j1 y1_3) = r → AK X 55 (K55 [1, 1]) (Back X [] (.b r)) ⟨18, [(3, .b y1_3)], []⟩ := by
    intro y1_3 H
    obtain rfl := H
    exact ak_ret hf hX (av := .b y1_3) (by kernel_rfl) [] (sel_of_eq (by kernel_rfl)) (by decide) (by rw [h0]; rfl) (by kernel_rfl) (fun _ h => all_nil h) (.d (.v _))
  refine go hT 8 [1, 2, 4] (k' := K55 [1, 0, 1]) (st' := ⟨18, [(1, .d (.rop false 1 (fun _ => [.v (.int .i64 k0)]) 0 0)), (2, .ptr 0 0 0 0), (4, .d (.agg [.v (.int .i64 a0.Lo), .v (.int .i64 a0.Hi)]))], [.box 24 [.i a0.Lo, .i a0.Hi]]⟩) (by kernel_rfl) ?_
  refine ak_callP (avs := [.d (.agg [.v (.int .i64 a0.Lo), .v (.int .i64 a0.Hi)])]) (dst := some 5) (k' := K55 [1, 0, 2]) [1, 2, 5] [] hP enters_56 (span_One.says a0) (by kernel_rfl) (hands_none _) (.cons (pass_d _) .nil) (st' := ⟨18, [(1, .d (.rop false 1 (fun _ => [.v (.int .i64 k0)]) 0 0)), (2, .ptr 0 0 0 0), (5, .b (span_One a0))], [.box 24 [.i a0.Lo, .i a0.Hi]]⟩) (by kernel_rfl) ?_
  refine go hT 1 [1, 2, 6] (k' := K55 [1, 0, 3]) (st' := ⟨18, [(1, .d (.rop false 1 (fun _ => [.v (.int .i64 k0)]) 0 0)), (2, .ptr 0 0 0 0), (6, .b (span_One a0))], [.box 24 [.i a0.Lo, .i a0.Hi]]⟩) (by kernel_rfl) ?_
  by_cases c1 : (span_One a0) = true
  · replace H := iteT (K := fun o => o) c1 H
    rw [c1]
    refine go hT 6 [1, 2, 12] (k' := K55 [1, 0, 9]) (st' := ⟨18, [(1, .d (.rop false 1 (fun _ => [.v (.int .i64 k0)]) 0 0)), (2, .ptr 0 0 0 0), (12, .b (decide (k0 ≥ a0.Lo)))], [.box 24 [.i a0.Lo, .i a0.Hi]]⟩) (by kernel_rfl) ?_
    by_cases c2 : k0 ≥ a0.Lo
    · replace H := iteT (K := fun o => o) c2 H
      rw [decide_eq_true c2]
      refine go hT 7 [3] (k' := K55 [1, 1]) (st' := ⟨18, [(3, .b (decide (k0 < a0.Hi)))], [.box 24 [.i a0.Lo, .i a0.Hi]]⟩) (by kernel_rfl) ?_
      refine ak_cut [3] [] (st' := ⟨18, [(3, .b (decide (k0 < a0.Hi)))], []⟩) (by kernel_rfl) (by kernel_rfl) rfl (by decide) (by rw [h0]; rfl) ?_
      exact Jj1 (decide (k0 < a0.Hi)) H
    · replace H := iteF (K := fun o => o) c2 H
      rw [decide_eq_false c2]
      refine go hT 7 [3] (k' := K55 [1, 1]) (st' := ⟨18, [(3, .b false)], [.box 24 [.i a0.Lo, .i a0.Hi]]⟩) (by kernel_rfl) ?_
      refine ak_cut [3] [] (st' := ⟨18, [(3, .b false)], []⟩) (by kernel_rfl) (by kernel_rfl) rfl (by decide) (by rw [h0]; rfl) ?_
      exact Jj1 false H
  · replace H := iteF (K := fun o => o) c1 H
    rw [boF c1]
    refine go hT 13 [3] (k' := K55 [1, 1]) (st' := ⟨18, [(3, .b false)], [.box 24 [.i a0.Lo, .i a0.Hi]]⟩) (by kernel_rfl) ?_
    refine ak_cut [3] [] (st' := ⟨18, [(3, .b false)], []⟩) (by kernel_rfl) (by kernel_rfl) rfl (by decide) (by rw [h0]; rfl) ?_
    exact Jj1 false H


theorem span_Has.says {t0 : Bool} (a0 : List api_Span) (a1 : Int) {r : Bool} (H : span_Has a0 a1 = some r) : Says Try.prog 25 [] [.d (.sl t0 a0.length (vec api_Span.e api_Span.z a0)), .i a1] [] (.b r) := by
  refine says_of Try.func25 rfl (nt := 8) rfl (Nat.le_of_ble_eq_true rfl) fun X hP h0 hX => ?_
  have hT : TabOk X.P T := hP ▸ tok
  have hf : X.P.funcs[25]? = some Try.f25 := hP ▸ Try.func25
  refine go hT 9 [5, 6] (k' := K25 [1, 0, 2]) (st' := ⟨8, [(5, .d (.sl t0 a0.length (vec api_Span.e api_Span.z a0))), (6, .fn 55 [.ptr 0 0 0 0])], [.box 3 [.i a1]]⟩) (by kernel_rfl) ?_
  obtain ⟨v1, h1, H⟩ := bindC (K := fun o => o) rfl H
  refine ak_callP (avs := [.d (.sl t0 a0.length (vec api_Span.e api_Span.z a0)), .fn 55 [.ptr 0 0 0 0]]) (dst := some 7) (k' := K25 [1, 0, 3]) [7] [] hP enters_54 (slices_ContainsFunc_api_Span.says (t0 := t0) (ff1 := 55) (cc1 := [.rop false 1 (fun _ => [.v (.int .i64 a1)]) 0 0]) a0 (fun z0 => some (span_Has_1 z0 a1)) enters_55 (fun z0 r h => by obtain rfl := retC h; exact span_Has_1.says z0 a1) h1) (by kernel_rfl) (hands_none _) (.cons (pass_d _) (.cons (.fn 55 (.cons (.look (ty := 3) (cs := [.v (.int .i64 a1)]) (by kernel_rfl) rfl) .nil)) .nil)) (st' := ⟨8, [(7, .b v1)], [.box 3 [.i a1]]⟩) (by kernel_rfl) ?_
  refine go hT 2 [4] (k' := K25 [1, 1]) (st' := ⟨8, [(4, .b v1)], [.box 3 [.i a1]]⟩) (by kernel_rfl) ?_
  obtain rfl := retC H
  exact ak_ret hf hX (av := .b v1) (by kernel_rfl) [] (sel_of_eq (by kernel_rfl)) (by decide) (by rw [h0]; rfl) (by kernel_rfl) (fun _ h => all_nil h) (.d (.v _))
end Go.SyP
