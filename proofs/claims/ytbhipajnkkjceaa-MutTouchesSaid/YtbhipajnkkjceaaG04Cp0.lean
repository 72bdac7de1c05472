/- Certificates, printed by gen.py. -/
import Derived.Test.YtbhipajnkkjceaaG04D
import Derived.Test.YtbhipajnkkjceaaG04I
import Derived.Test.YtbhipajnkkjceaaG04W
set_option linter.unusedVariables false
set_option linter.unusedSimpArgs false
namespace Go.SyP
open Go Go.Sy Go.Proofs


theorem splicelaw04_few.says (a0 : api_Mut) : Says Try.prog 12 [] [.d (eG26 a0)] [] (.b (splicelaw04_few a0)) := by
  obtain ⟨r, H⟩ : ∃ r, splicelaw04_few a0 = r := ⟨_, rfl⟩
  rw [H]
  refine says_of Try.func12 rfl (nt := 7) rfl (Nat.le_of_ble_eq_true rfl) fun X hP h0 hX => ?_
  have hT : TabOk X.P T := hP ▸ tok
  have hf : X.P.funcs[12]? = some Try.f12 := hP ▸ Try.func12
  refine goK hT 13 (K12 11 1) ⟨7, [(2, .b (decide ((a0.Pairs.length : Int) ≤ 100)))], [.box 26 (eC26 a0)]⟩ ?_
  obtain rfl := H
  exact ak_ret hf hX (av := .b (decide ((a0.Pairs.length : Int) ≤ 100))) (by kernel_rfl) [] (sel_of_eq (by kernel_rfl)) (by decide) (by rw [h0]; rfl) (by kernel_rfl) (fun _ h => all_nil h) (.d (.v _))


theorem slices_IndexFunc_api_Pair.says {t0 : Bool} {ff1 : FuncId} {cc1 : List DV} (a0 : List api_Pair) (p1 : api_Pair → Option Bool) (he1 : Sy.Enters Try.prog ff1) (hp1 : ∀ (z0 : api_Pair) r, p1 z0 = some r → Says Try.prog ff1 [] ([.d (eG67 z0)] ++ List.map AV.d cc1) [] (.b r)) {r : Int} (H : slices_IndexFunc_api_Pair a0 p1 = some r) : Says Try.prog 86 [] [.d (eL67 t0 a0), .d (.fn ff1 cc1)] [] (.i r) := by
  refine says_of Try.func86 rfl (nt := 19) rfl (Nat.le_of_ble_eq_true rfl) fun X hP h0 hX => ?_
  have hT : TabOk X.P T := hP ▸ tok
  have hf : X.P.funcs[86]? = some Try.f86 := hP ▸ Try.func86
  refine goK hT 13 (K86 11010 0) ⟨19, [(0, .d (eL67 t0 a0)), (1, .d (.fn ff1 cc1)), (7, .i (a0.length : Int)), (8, .i 0)], []⟩ ?_
  have L : ∀ n, (∀ (x1_8 : Int), iter (slices_IndexFunc_api_Pair.step a0 p1) n (.l1 x1_8) = some r → AK X 86 ((K86 11010 0)) (Back X [] (.i r)) ⟨19, [(0, .d (eL67 t0 a0)), (1, .d (.fn ff1 cc1)), (7, .i (a0.length : Int)), (8, .i x1_8)], []⟩) := by
    intro n
    induction n with
    | zero => exact fun _ H => iter0 H
    | succ n ih =>
      · intro x1_8 H
        refine goK hT 5 (K86 1101001 0) ⟨19, [(0, .d (eL67 t0 a0)), (1, .d (.fn ff1 cc1)), (7, .i (a0.length : Int)), (8, .i x1_8), (9, .b (decide (x1_8 < (a0.length : Int))))], []⟩ ?_
        by_cases c1 : x1_8 < (a0.length : Int)
        · replace H := sT c1 H
          rw [decide_eq_true c1]
          refine goK hT 2 (K86 1101001 1) ⟨19, [(0, .d (eL67 t0 a0)), (1, .d (.fn ff1 cc1)), (7, .i (a0.length : Int)), (8, .i x1_8)], []⟩ ?_
          refine goK hT 12 (K86 110100110010 3) ⟨19, [(0, .d (eL67 t0 a0)), (1, .d (.fn ff1 cc1)), (5, .i x1_8), (7, .i (a0.length : Int)), (8, .i x1_8), (11, .d (.fn ff1 cc1)), (12, .d (eL67 t0 a0)), (13, .i x1_8)], []⟩ ?_
          obtain ⟨h2, H⟩ := sC H
          refine ak_idx hT [0, 1, 5, 7, 8, 11, 14] (i := x1_8) (n := (a0.length : Int)) h2.1 h2.2 (k' := (K86 110100110010 4)) (st' := ⟨19, [(0, .d (eL67 t0 a0)), (1, .d (.fn ff1 cc1)), (5, .i x1_8), (7, .i (a0.length : Int)), (8, .i x1_8), (11, .d (.fn ff1 cc1)), (14, .d (eP67 t0 a0 x1_8.toNat 0))], []⟩) (by kernel_rfl) ?_
          refine goK hT 1 (K86 110100110010 5) ⟨19, [(0, .d (eL67 t0 a0)), (1, .d (.fn ff1 cc1)), (5, .i x1_8), (7, .i (a0.length : Int)), (8, .i x1_8), (11, .d (.fn ff1 cc1)), (15, .d (eG67 (a0.getD x1_8.toNat api_Pair.z)))], []⟩ ?_
          obtain ⟨v1, h3, H⟩ := sbC H
          refine ak_callP (avs := [.d (eG67 (a0.getD x1_8.toNat api_Pair.z))] ++ List.map AV.d cc1) (dst := some 16) (k' := (K86 110100110010 6)) [0, 1, 5, 7, 8, 16] [] hP he1 (hp1 (a0.getD x1_8.toNat api_Pair.z) v1 h3) (by kernel_rfl) (hands_none _) (.cons (pass_d _) (passes_d _)) (st' := ⟨19, [(0, .d (eL67 t0 a0)), (1, .d (.fn ff1 cc1)), (5, .i x1_8), (7, .i (a0.length : Int)), (8, .i x1_8), (16, .b v1)], []⟩) (by kernel_rfl) ?_
          refine goK hT 1 (K86 11010011001 1) ⟨19, [(0, .d (eL67 t0 a0)), (1, .d (.fn ff1 cc1)), (5, .i x1_8), (7, .i (a0.length : Int)), (8, .i x1_8), (16, .b v1)], []⟩ ?_
          by_cases c4 : v1 = true
          · replace H := sT c4 H
            rw [c4]
            refine goK hT 6 (K86 1101001100110 1) ⟨19, [(4, .i x1_8)], []⟩ ?_
            obtain rfl := retC H
            exact ak_ret hf hX (av := .i x1_8) (by kernel_rfl) [] (sel_of_eq (by kernel_rfl)) (by decide) (by rw [h0]; rfl) (by kernel_rfl) (fun _ h => all_nil h) (.d (.v _))
          · replace H := sF c4 H
            rw [boF c4]
            refine goK hT 3 (K86 11010011 1) ⟨19, [(0, .d (eL67 t0 a0)), (1, .d (.fn ff1 cc1)), (7, .i (a0.length : Int)), (8, .i x1_8)], []⟩ ?_
            refine goK hT 5 (K86 11010 0) ⟨19, [(0, .d (eL67 t0 a0)), (1, .d (.fn ff1 cc1)), (7, .i (a0.length : Int)), (8, .i (IntKind.wrap .i64 (x1_8 + 1)))], []⟩ ?_
            refine cutK [] ⟨19, [(0, .d (eL67 t0 a0)), (1, .d (.fn ff1 cc1)), (7, .i (a0.length : Int)), (8, .i (IntKind.wrap .i64 (x1_8 + 1)))], []⟩ h0 ?_
            exact ih (IntKind.wrap .i64 (x1_8 + 1)) H
        · replace H := sF c1 H
          rw [decide_eq_false c1]
          refine goK hT 6 (K86 111 1) ⟨19, [(4, .i (-1))], []⟩ ?_
          obtain rfl := retC H
          exact ak_ret hf hX (av := .i (-1)) (by kernel_rfl) [] (sel_of_eq (by kernel_rfl)) (by decide) (by rw [h0]; rfl) (by kernel_rfl) (fun _ h => all_nil h) (.d (.v _))
  refine cutK [] ⟨19, [(0, .d (eL67 t0 a0)), (1, .d (.fn ff1 cc1)), (7, .i (a0.length : Int)), (8, .i 0)], []⟩ h0 ?_
  obtain ⟨n, H⟩ := loopC H
  exact (L n) 0 H


theorem slices_ContainsFunc_api_Pair.says {t0 : Bool} {ff1 : FuncId} {cc1 : List DV} (a0 : List api_Pair) (p1 : api_Pair → Option Bool) (he1 : Sy.Enters Try.prog ff1) (hp1 : ∀ (z0 : api_Pair) r, p1 z0 = some r → Says Try.prog ff1 [] ([.d (eG67 z0)] ++ List.map AV.d cc1) [] (.b r)) {r : Bool} (H : slices_ContainsFunc_api_Pair a0 p1 = some r) : Says Try.prog 80 [] [.d (eL67 t0 a0), .d (.fn ff1 cc1)] [] (.b r) := by
  refine says_of Try.func80 rfl (nt := 9) rfl (Nat.le_of_ble_eq_true rfl) fun X hP h0 hX => ?_
  have hT : TabOk X.P T := hP ▸ tok
  have hf : X.P.funcs[80]? = some Try.f80 := hP ▸ Try.func80
  refine goK hT 8 (K80 110 2) ⟨9, [(5, .d (eL67 t0 a0)), (6, .d (.fn ff1 cc1))], []⟩ ?_
  obtain ⟨v1, h1, H⟩ := ibC H
  refine ak_callP (avs := [.d (eL67 t0 a0), .d (.fn ff1 cc1)]) (dst := some 7) (k' := (K80 110 3)) [7] [] hP enters_86 (slices_IndexFunc_api_Pair.says (t0 := t0) (ff1 := ff1) (cc1 := cc1) a0 p1 he1 hp1 h1) (by kernel_rfl) (hands_none _) (.cons (pass_d _) (.cons (pass_d _) .nil)) (st' := ⟨9, [(7, .i v1)], []⟩) (by kernel_rfl) ?_
  refine goK hT 3 (K80 11 1) ⟨9, [(4, .b (decide (v1 ≥ 0)))], []⟩ ?_
  obtain rfl := retC H
  exact ak_ret hf hX (av := .b (decide (v1 ≥ 0))) (by kernel_rfl) [] (sel_of_eq (by kernel_rfl)) (by decide) (by rw [h0]; rfl) (by kernel_rfl) (fun _ h => all_nil h) (.d (.v _))


theorem mut_value.says (a0 : Int) : Says Try.prog 66 [] [.i a0] [] (.b (mut_value a0)) := by
  obtain ⟨r, H⟩ : ∃ r, mut_value a0 = r := ⟨_, rfl⟩
  rw [H]
  refine says_of Try.func66 rfl (nt := 9) rfl (Nat.le_of_ble_eq_true rfl) fun X hP h0 hX => ?_
  have hT : TabOk X.P T := hP ▸ tok
  have hf : X.P.funcs[66]? = some Try.f66 := hP ▸ Try.func66
  have Jj1 : ∀ (y1_2 : Bool), (mut_value.j1 y1_2) = r → AK X 66 ((K66 11 1)) (Back X [] (.b r)) ⟨9, [(2, .b y1_2)], []⟩ := by
    intro y1_2 H
    obtain rfl := H
    exact ak_ret hf hX (av := .b y1_2) (by kernel_rfl) [] (sel_of_eq (by kernel_rfl)) (by decide) (by rw [h0]; rfl) (by kernel_rfl) (fun _ h => all_nil h) (.d (.v _))
  refine goK hT 9 (K66 110 3) ⟨9, [(0, .i a0), (5, .b (decide (a0 ≥ (-1099511627776))))], []⟩ ?_
  by_cases c1 : a0 ≥ (-1099511627776)
  · replace H := iT c1 H
    rw [decide_eq_true c1]
    refine goK hT 5 (K66 11 1) ⟨9, [(2, .b (decide (a0 ≤ 1099511627776)))], []⟩ ?_
    refine cutK [] ⟨9, [(2, .b (decide (a0 ≤ 1099511627776)))], []⟩ h0 ?_
    exact Jj1 (decide (a0 ≤ 1099511627776)) H
  · replace H := iF c1 H
    rw [decide_eq_false c1]
    refine goK hT 5 (K66 11 1) ⟨9, [(2, .b false)], []⟩ ?_
    refine cutK [] ⟨9, [(2, .b false)], []⟩ h0 ?_
    exact Jj1 false H


theorem mut_pair.says (a0 : api_Pair) : Says Try.prog 82 [] [.d (eG67 a0)] [] (.b (mut_pair a0)) := by
  obtain ⟨r, H⟩ : ∃ r, mut_pair a0 = r := ⟨_, rfl⟩
  rw [H]
  refine says_of Try.func82 rfl (nt := 16) rfl (Nat.le_of_ble_eq_true rfl) fun X hP h0 hX => ?_
  have hT : TabOk X.P T := hP ▸ tok
  have hf : X.P.funcs[82]? = some Try.f82 := hP ▸ Try.func82
  have Jj1 : ∀ (y1_2 : Bool), (mut_pair.j1 y1_2) = r → AK X 82 ((K82 11 1)) (Back X [] (.b r)) ⟨16, [(2, .b y1_2)], []⟩ := by
    intro y1_2 H
    obtain rfl := H
    exact ak_ret hf hX (av := .b y1_2) (by kernel_rfl) [] (sel_of_eq (by kernel_rfl)) (by decide) (by rw [h0]; rfl) (by kernel_rfl) (fun _ h => all_nil h) (.d (.v _))
  refine goK hT 11 (K82 110 4) ⟨16, [(1, .ptr 0 0 0 0), (6, .b (decide (a0.Key ≥ 0)))], [.box 67 (eC67 a0)]⟩ ?_
  by_cases c1 : a0.Key ≥ 0
  · replace H := iT c1 H
    rw [decide_eq_true c1]
    refine goK hT 5 (K82 110 9) ⟨16, [(1, .ptr 0 0 0 0), (11, .b (decide (a0.Key < 4096)))], [.box 67 (eC67 a0)]⟩ ?_
    by_cases c2 : a0.Key < 4096
    · replace H := iT c2 H
      rw [decide_eq_true c2]
      refine goK hT 2 (K82 110 11) ⟨16, [(11, .b true), (13, .i a0.Val)], [.box 67 (eC67 a0)]⟩ ?_
      refine ak_callP (avs := [.i a0.Val]) (dst := some 14) (k' := (K82 110 12)) [11, 14] [] hP enters_66 (mut_value.says a0.Val) (by kernel_rfl) (hands_none _) (.cons (pass_d _) .nil) (st' := ⟨16, [(11, .b true), (14, .b (mut_value a0.Val))], [.box 67 (eC67 a0)]⟩) (by kernel_rfl) ?_
      refine goK hT 3 (K82 11 1) ⟨16, [(2, .b (mut_value a0.Val))], [.box 67 (eC67 a0)]⟩ ?_
      refine cutK [] ⟨16, [(2, .b (mut_value a0.Val))], []⟩ h0 ?_
      exact Jj1 (mut_value a0.Val) H
    · replace H := iF c2 H
      rw [decide_eq_false c2]
      refine goK hT 6 (K82 11 1) ⟨16, [(2, .b false)], [.box 67 (eC67 a0)]⟩ ?_
      refine cutK [] ⟨16, [(2, .b false)], []⟩ h0 ?_
      exact Jj1 false H
  · replace H := iF c1 H
    rw [decide_eq_false c1]
    refine goK hT 11 (K82 11 1) ⟨16, [(2, .b false)], [.box 67 (eC67 a0)]⟩ ?_
    refine cutK [] ⟨16, [(2, .b false)], []⟩ h0 ?_
    exact Jj1 false H


theorem mut_pairs_1.says (a0 : api_Pair) : Says Try.prog 81 [] [.d (eG67 a0)] [] (.b (mut_pairs_1 a0)) := by
  obtain ⟨r, H⟩ : ∃ r, mut_pairs_1 a0 = r := ⟨_, rfl⟩
  rw [H]
  refine says_of Try.func81 rfl (nt := 6) rfl (Nat.le_of_ble_eq_true rfl) fun X hP h0 hX => ?_
  have hT : TabOk X.P T := hP ▸ tok
  have hf : X.P.funcs[81]? = some Try.f81 := hP ▸ Try.func81
  refine goK hT 8 (K81 110 1) ⟨6, [(3, .d (eG67 a0))], [.box 67 (eC67 a0)]⟩ ?_
  refine ak_callP (avs := [.d (eG67 a0)]) (dst := some 4) (k' := (K81 110 2)) [4] [] hP enters_82 (mut_pair.says a0) (by kernel_rfl) (hands_none _) (.cons (pass_d _) .nil) (st' := ⟨6, [(4, .b (mut_pair a0))], [.box 67 (eC67 a0)]⟩) (by kernel_rfl) ?_
  refine goK hT 3 (K81 11 1) ⟨6, [(2, .b (!(mut_pair a0)))], [.box 67 (eC67 a0)]⟩ ?_
  obtain rfl := H
  exact ak_ret hf hX (av := .b (!(mut_pair a0))) (by kernel_rfl) [] (sel_of_eq (by kernel_rfl)) (by decide) (by rw [h0]; rfl) (by kernel_rfl) (fun _ h => all_nil h) (.d (.v _))


theorem mut_pairs.says (a0 : api_Mut) (a1 : Int) (a2 : Int) {r : Bool} (H : mut_pairs a0 a1 a2 = some r) : Says Try.prog 64 [] [.d (eG26 a0), .i a1, .i a2] [] (.b r) := by
  refine says_of Try.func64 rfl (nt := 25) rfl (Nat.le_of_ble_eq_true rfl) fun X hP h0 hX => ?_
  have hT : TabOk X.P T := hP ▸ tok
  have hf : X.P.funcs[64]? = some Try.f64 := hP ▸ Try.func64
  have Jj1 : ∀ (y1_6 : Bool), (mut_pairs.j1 y1_6) = some r → AK X 64 ((K64 11 1)) (Back X [] (.b r)) ⟨25, [(6, .b y1_6)], []⟩ := by
    intro y1_6 H
    obtain rfl := retC H
    exact ak_ret hf hX (av := .b y1_6) (by kernel_rfl) [] (sel_of_eq (by kernel_rfl)) (by decide) (by rw [h0]; rfl) (by kernel_rfl) (fun _ h => all_nil h) (.d (.v _))
  refine goK hT 13 (K64 110 6) ⟨25, [(2, .i a2), (3, .ptr 0 0 0 0), (12, .b (decide ((a0.Pairs.length : Int) ≥ a1)))], [.box 26 (eC26 a0)]⟩ ?_
  by_cases c1 : (a0.Pairs.length : Int) ≥ a1
  · replace H := iT c1 H
    rw [decide_eq_true c1]
    refine goK hT 7 (K64 110 13) ⟨25, [(3, .ptr 0 0 0 0), (19, .b (decide ((a0.Pairs.length : Int) ≤ a2)))], [.box 26 (eC26 a0)]⟩ ?_
    by_cases c2 : (a0.Pairs.length : Int) ≤ a2
    · replace H := iT c2 H
      rw [decide_eq_true c2]
      refine goK hT 2 (K64 110 15) ⟨25, [(19, .b true), (21, .d (eL67 true a0.Pairs))], [.box 26 (eC26 a0)]⟩ ?_
      obtain ⟨v1, h3, H⟩ := ibC H
      refine ak_callP (avs := [.d (eL67 true a0.Pairs), .d (.fn 81 [])]) (dst := some 22) (k' := (K64 110 16)) [19, 22] [] hP enters_80 (slices_ContainsFunc_api_Pair.says (t0 := true) (ff1 := 81) (cc1 := []) a0.Pairs (fun z0 => some (mut_pairs_1 z0)) enters_81 (fun z0 r h => by obtain rfl := retC h; exact mut_pairs_1.says z0) h3) (by kernel_rfl) (hands_none _) (.cons (pass_d _) (.cons (pass_d _) .nil)) (st' := ⟨25, [(19, .b true), (22, .b v1)], [.box 26 (eC26 a0)]⟩) (by kernel_rfl) ?_
      refine goK hT 4 (K64 11 1) ⟨25, [(6, .b (!v1))], [.box 26 (eC26 a0)]⟩ ?_
      refine cutK [] ⟨25, [(6, .b (!v1))], []⟩ h0 ?_
      exact Jj1 (!v1) H
    · replace H := iF c2 H
      rw [decide_eq_false c2]
      refine goK hT 7 (K64 11 1) ⟨25, [(6, .b false)], [.box 26 (eC26 a0)]⟩ ?_
      refine cutK [] ⟨25, [(6, .b false)], []⟩ h0 ?_
      exact Jj1 false H
  · replace H := iF c1 H
    rw [decide_eq_false c1]
    refine goK hT 14 (K64 11 1) ⟨25, [(6, .b false)], [.box 26 (eC26 a0)]⟩ ?_
    refine cutK [] ⟨25, [(6, .b false)], []⟩ h0 ?_
    exact Jj1 false H


theorem mut_rising.says {t0 : Bool} (a0 : List api_Pair) {r : Bool} (H : mut_rising a0 = some r) : Says Try.prog 65 [] [.d (eL67 t0 a0)] [] (.b r) := by
  refine says_of Try.func65 rfl (nt := 22) rfl (Nat.le_of_ble_eq_true rfl) fun X hP h0 hX => ?_
  have hT : TabOk X.P T := hP ▸ tok
  have hf : X.P.funcs[65]? = some Try.f65 := hP ▸ Try.func65
  refine goK hT 11 (K65 11010 0) ⟨22, [(0, .d (eL67 t0 a0)), (3, .i 1)], []⟩ ?_
  have L : ∀ n, (∀ (x1_3 : Int), iter (mut_rising.step a0) n (.l1 x1_3) = some r → AK X 65 ((K65 11010 0)) (Back X [] (.b r)) ⟨22, [(0, .d (eL67 t0 a0)), (3, .i x1_3)], []⟩) := by
    intro n
    induction n with
    | zero => exact fun _ H => iter0 H
    | succ n ih =>
      · intro x1_3 H
        refine goK hT 8 (K65 1101000 1) ⟨22, [(0, .d (eL67 t0 a0)), (3, .i x1_3), (7, .b (decide (x1_3 < (a0.length : Int))))], []⟩ ?_
        by_cases c1 : x1_3 < (a0.length : Int)
        · replace H := sT c1 H
          rw [decide_eq_true c1]
          refine goK hT 2 (K65 110100 1) ⟨22, [(0, .d (eL67 t0 a0)), (3, .i x1_3)], []⟩ ?_
          refine goK hT 3 (K65 110100100 0) ⟨22, [(0, .d (eL67 t0 a0)), (3, .i x1_3)], []⟩ ?_
          obtain ⟨h2, H⟩ := sC H
          obtain ⟨h3, H⟩ := sC H
          refine drawK (hP ▸ mixed) 12 [0, 3] [some (.d (eL67 t0 a0)), some (.i x1_3), some (.i (IntKind.wrap .i64 (x1_3 - 1))), some (.d (eP67 t0 a0 ((IntKind.wrap .i64 (x1_3 - 1)).toNat) 0)), some (.d (eP67 t0 a0 ((IntKind.wrap .i64 (x1_3 - 1)).toNat) 0)), some (.i ((a0.getD ((IntKind.wrap .i64 (x1_3 - 1)).toNat) api_Pair.z).Key)), some (.d (eL67 t0 a0)), some (.i x1_3), some (.d (eP67 t0 a0 x1_3.toNat 0)), some (.d (eP67 t0 a0 x1_3.toNat 0)), some (.i ((a0.getD x1_3.toNat api_Pair.z).Key)), some (.b (decide (((a0.getD ((IntKind.wrap .i64 (x1_3 - 1)).toNat) api_Pair.z).Key) ≥ ((a0.getD x1_3.toNat api_Pair.z).Key))))] (opG (opG (opG (opS (opG (opG (opG (opG (opS (opG (opG (opG op0 hT) hT) hT) (fun R rest h => ak_idx0 hT (i := IntKind.wrap .i64 (x1_3 - 1)) (n := (a0.length : Int)) h2.1 h2.2 (by kernel_rfl) h)) hT) hT) hT) hT) (fun R rest h => ak_idx0 hT (i := x1_3) (n := (a0.length : Int)) h3.1 h3.2 (by kernel_rfl) h)) hT) hT) hT) ?_
          refine goK hT 1 (K65 110100100 1) ⟨22, [(0, .d (eL67 t0 a0)), (3, .i x1_3), (21, .b (decide (((a0.getD ((IntKind.wrap .i64 (x1_3 - 1)).toNat) api_Pair.z).Key) ≥ ((a0.getD x1_3.toNat api_Pair.z).Key))))], []⟩ ?_
          by_cases c4 : ((a0.getD ((IntKind.wrap .i64 (x1_3 - 1)).toNat) api_Pair.z).Key) ≥ ((a0.getD x1_3.toNat api_Pair.z).Key)
          · replace H := sT c4 H
            rw [decide_eq_true c4]
            refine goK hT 5 (K65 11010010010 1) ⟨22, [(2, .b false)], []⟩ ?_
            obtain rfl := retC H
            exact ak_ret hf hX (av := .b false) (by kernel_rfl) [] (sel_of_eq (by kernel_rfl)) (by decide) (by rw [h0]; rfl) (by kernel_rfl) (fun _ h => all_nil h) (.d (.v _))
          · replace H := sF c4 H
            rw [decide_eq_false c4]
            refine goK hT 3 (K65 1101001 1) ⟨22, [(0, .d (eL67 t0 a0)), (3, .i x1_3)], []⟩ ?_
            refine goK hT 6 (K65 11010 0) ⟨22, [(0, .d (eL67 t0 a0)), (3, .i (IntKind.wrap .i64 (x1_3 + 1)))], []⟩ ?_
            refine cutK [] ⟨22, [(0, .d (eL67 t0 a0)), (3, .i (IntKind.wrap .i64 (x1_3 + 1)))], []⟩ h0 ?_
            exact ih (IntKind.wrap .i64 (x1_3 + 1)) H
        · replace H := sF c1 H
          rw [decide_eq_false c1]
          refine goK hT 6 (K65 111 1) ⟨22, [(2, .b true)], []⟩ ?_
          obtain rfl := retC H
          exact ak_ret hf hX (av := .b true) (by kernel_rfl) [] (sel_of_eq (by kernel_rfl)) (by decide) (by rw [h0]; rfl) (by kernel_rfl) (fun _ h => all_nil h) (.d (.v _))
  refine cutK [] ⟨22, [(0, .d (eL67 t0 a0)), (3, .i 1)], []⟩ h0 ?_
  obtain ⟨n, H⟩ := loopC H
  exact (L n) 1 H


theorem span_One.says (a0 : api_Span) : Says Try.prog 49 [] [.d (eG24 a0)] [] (.b (span_One a0)) := by
  obtain ⟨r, H⟩ : ∃ r, span_One a0 = r := ⟨_, rfl⟩
  rw [H]
  refine says_of Try.func49 rfl (nt := 18) rfl (Nat.le_of_ble_eq_true rfl) fun X hP h0 hX => ?_
  have hT : TabOk X.P T := hP ▸ tok
  have hf : X.P.funcs[49]? = some Try.f49 := hP ▸ Try.func49
  have Jj1 : ∀ (y1_2 : Bool), (span_One.j1 y1_2) = r → AK X 49 ((K49 11 1)) (Back X [] (.b r)) ⟨18, [(2, .b y1_2)], []⟩ := by
    intro y1_2 H
    obtain rfl := H
    exact ak_ret hf hX (av := .b y1_2) (by kernel_rfl) [] (sel_of_eq (by kernel_rfl)) (by decide) (by rw [h0]; rfl) (by kernel_rfl) (fun _ h => all_nil h) (.d (.v _))
  refine goK hT 11 (K49 110 4) ⟨18, [(1, .ptr 0 0 0 0), (6, .b (decide (a0.Lo ≥ 0)))], [.box 24 (eC24 a0)]⟩ ?_
  by_cases c1 : a0.Lo ≥ 0
  · replace H := iT c1 H
    rw [decide_eq_true c1]
    refine goK hT 7 (K49 110 11) ⟨18, [(1, .ptr 0 0 0 0), (13, .b (decide (a0.Lo < a0.Hi)))], [.box 24 (eC24 a0)]⟩ ?_
    by_cases c2 : a0.Lo < a0.Hi
    · replace H := iT c2 H
      rw [decide_eq_true c2]
      refine goK hT 6 (K49 11 1) ⟨18, [(2, .b (decide (a0.Hi ≤ 4096)))], [.box 24 (eC24 a0)]⟩ ?_
      refine cutK [] ⟨18, [(2, .b (decide (a0.Hi ≤ 4096)))], []⟩ h0 ?_
      exact Jj1 (decide (a0.Hi ≤ 4096)) H
    · replace H := iF c2 H
      rw [decide_eq_false c2]
      refine goK hT 6 (K49 11 1) ⟨18, [(2, .b false)], [.box 24 (eC24 a0)]⟩ ?_
      refine cutK [] ⟨18, [(2, .b false)], []⟩ h0 ?_
      exact Jj1 false H
  · replace H := iF c1 H
    rw [decide_eq_false c1]
    refine goK hT 13 (K49 11 1) ⟨18, [(2, .b false)], [.box 24 (eC24 a0)]⟩ ?_
    refine cutK [] ⟨18, [(2, .b false)], []⟩ h0 ?_
    exact Jj1 false H


theorem mut_kind.says (a0 : api_Mut) {r : Bool} (H : mut_kind a0 = some r) : Says Try.prog 44 [] [.d (eG26 a0)] [] (.b r) := by
  refine says_of Try.func44 rfl (nt := 102) rfl (Nat.le_of_ble_eq_true rfl) fun X hP h0 hX => ?_
  have hT : TabOk X.P T := hP ▸ tok
  have hf : X.P.funcs[44]? = some Try.f44 := hP ▸ Try.func44
  have Jj1 : ∀ (y1_23 : Bool), (mut_kind.j1 a0 y1_23) = some r → AK X 44 ((K44 1110 1)) (Back X [] (.b r)) ⟨102, [(1, .ptr 0 0 0 0), (23, .b y1_23)], [.box 26 (eC26 a0)]⟩ := by
    intro y1_23 H
    by_cases c7 : y1_23 = true
    · replace H := iT c7 H
      rw [c7]
      refine goK hT 5 (K44 111010 1) ⟨102, [(2, .b false)], [.box 26 (eC26 a0)]⟩ ?_
      obtain rfl := retC H
      exact ak_ret hf hX (av := .b false) (by kernel_rfl) [] (sel_of_eq (by kernel_rfl)) (by decide) (by rw [h0]; rfl) (by kernel_rfl) (fun _ h => all_nil h) (.d (.v _))
    · replace H := iF c7 H
      rw [boF c7]
      refine goK hT 2 (K44 111 1) ⟨102, [(1, .ptr 0 0 0 0)], [.box 26 (eC26 a0)]⟩ ?_
      refine goK hT 12 (K44 1111010 1) ⟨102, [(1, .ptr 0 0 0 0), (25, .i a0.Kind), (26, .b (a0.Kind == 1))], [.box 26 (eC26 a0)]⟩ ?_
      by_cases c8 : a0.Kind = 1
      · replace H := iT c8 H
        rw [eqT c8]
        refine goK hT 4 (K44 1111010100 1) ⟨102, [(1, .ptr 0 0 0 0), (28, .d (eG26 a0))], [.box 26 (eC26 a0)]⟩ ?_
        obtain ⟨v1, h9, H⟩ := ibC H
        have Jj2 : ∀ (y2_2 : Bool), (mut_kind.j2 y2_2) = some r → AK X 44 ((K44 111101010 1)) (Back X [] (.b r)) ⟨102, [(2, .b y2_2)], []⟩ := by
          intro y2_2 H
          obtain rfl := retC H
          exact ak_ret hf hX (av := .b y2_2) (by kernel_rfl) [] (sel_of_eq (by kernel_rfl)) (by decide) (by rw [h0]; rfl) (by kernel_rfl) (fun _ h => all_nil h) (.d (.v _))
        refine ak_callP (avs := [.d (eG26 a0), .i 1, .i 8]) (dst := some 29) (k' := (K44 1111010100 2)) [1, 29] [] hP enters_64 (mut_pairs.says a0 1 8 h9) (by kernel_rfl) (hands_none _) (.cons (pass_d _) (.cons (pass_d _) (.cons (pass_d _) .nil))) (st' := ⟨102, [(1, .ptr 0 0 0 0), (29, .b v1)], [.box 26 (eC26 a0)]⟩) (by kernel_rfl) ?_
        refine goK hT 1 (K44 1111010100 3) ⟨102, [(1, .ptr 0 0 0 0), (30, .b v1)], [.box 26 (eC26 a0)]⟩ ?_
        by_cases c10 : v1 = true
        · replace H := iT c10 H
          rw [c10]
          refine goK hT 2 (K44 1111010100 5) ⟨102, [(30, .b true), (32, .d (eL67 true a0.Pairs))], [.box 26 (eC26 a0)]⟩ ?_
          obtain ⟨v2, h11, H⟩ := ibC H
          refine ak_callP (avs := [.d (eL67 true a0.Pairs)]) (dst := some 33) (k' := (K44 1111010100 6)) [30, 33] [] hP enters_65 (mut_rising.says (t0 := true) a0.Pairs h11) (by kernel_rfl) (hands_none _) (.cons (pass_d _) .nil) (st' := ⟨102, [(30, .b true), (33, .b v2)], [.box 26 (eC26 a0)]⟩) (by kernel_rfl) ?_
          refine goK hT 3 (K44 111101010 1) ⟨102, [(2, .b v2)], [.box 26 (eC26 a0)]⟩ ?_
          refine cutK [] ⟨102, [(2, .b v2)], []⟩ h0 ?_
          exact Jj2 v2 H
        · replace H := iF c10 H
          rw [boF c10]
          refine goK hT 6 (K44 111101010 1) ⟨102, [(2, .b false)], [.box 26 (eC26 a0)]⟩ ?_
          refine cutK [] ⟨102, [(2, .b false)], []⟩ h0 ?_
          exact Jj2 false H
      · replace H := iF c8 H
        rw [eqF c8]
        refine goK hT 6 (K44 111101011 1) ⟨102, [(1, .ptr 0 0 0 0), (25, .i a0.Kind), (35, .b (a0.Kind == 2))], [.box 26 (eC26 a0)]⟩ ?_
        by_cases c12 : a0.Kind = 2
        · replace H := iT c12 H
          have Jj3 : ∀ (y3_2 : Bool), (mut_kind.j3 y3_2) = some r → AK X 44 ((K44 11110101110 1)) (Back X [] (.b r)) ⟨102, [(2, .b y3_2)], []⟩ := by
            intro y3_2 H
            obtain rfl := retC H
            exact ak_ret hf hX (av := .b y3_2) (by kernel_rfl) [] (sel_of_eq (by kernel_rfl)) (by decide) (by rw [h0]; rfl) (by kernel_rfl) (fun _ h => all_nil h) (.d (.v _))
          rw [eqT c12]
          refine goK hT 8 (K44 111101011100 5) ⟨102, [(1, .ptr 0 0 0 0), (41, .b ((a0.Pairs.length : Int) == 0))], [.box 26 (eC26 a0)]⟩ ?_
          by_cases c13 : (a0.Pairs.length : Int) = 0
          · replace H := iT c13 H
            rw [eqT c13]
            refine goK hT 2 (K44 111101011100 7) ⟨102, [(41, .b true), (43, .d (eG24 a0.Over))], [.box 26 (eC26 a0)]⟩ ?_
            refine ak_callP (avs := [.d (eG24 a0.Over)]) (dst := some 44) (k' := (K44 111101011100 8)) [41, 44] [] hP enters_49 (span_One.says a0.Over) (by kernel_rfl) (hands_none _) (.cons (pass_d _) .nil) (st' := ⟨102, [(41, .b true), (44, .b (span_One a0.Over))], [.box 26 (eC26 a0)]⟩) (by kernel_rfl) ?_
            refine goK hT 3 (K44 11110101110 1) ⟨102, [(2, .b (span_One a0.Over))], [.box 26 (eC26 a0)]⟩ ?_
            refine cutK [] ⟨102, [(2, .b (span_One a0.Over))], []⟩ h0 ?_
            exact Jj3 (span_One a0.Over) H
          · replace H := iF c13 H
            rw [eqF c13]
            refine goK hT 6 (K44 11110101110 1) ⟨102, [(2, .b false)], [.box 26 (eC26 a0)]⟩ ?_
            refine cutK [] ⟨102, [(2, .b false)], []⟩ h0 ?_
            exact Jj3 false H
        · replace H := iF c12 H
          rw [eqF c12]
          refine goK hT 6 (K44 11110101111 1) ⟨102, [(1, .ptr 0 0 0 0), (25, .i a0.Kind), (46, .b (a0.Kind == 3))], [.box 26 (eC26 a0)]⟩ ?_
          by_cases c14 : a0.Kind = 3
          · replace H := iT c14 H
            rw [eqT c14]
            refine goK hT 4 (K44 11110101111100 1) ⟨102, [(48, .d (eG26 a0))], [.box 26 (eC26 a0)]⟩ ?_
            obtain ⟨v3, h15, H⟩ := ibC H
            refine ak_callP (avs := [.d (eG26 a0), .i 1, .i 1]) (dst := some 49) (k' := (K44 11110101111100 2)) [49] [] hP enters_64 (mut_pairs.says a0 1 1 h15) (by kernel_rfl) (hands_none _) (.cons (pass_d _) (.cons (pass_d _) (.cons (pass_d _) .nil))) (st' := ⟨102, [(49, .b v3)], [.box 26 (eC26 a0)]⟩) (by kernel_rfl) ?_
            refine goK hT 2 (K44 1111010111110 1) ⟨102, [(2, .b v3)], [.box 26 (eC26 a0)]⟩ ?_
            obtain rfl := retC H
            exact ak_ret hf hX (av := .b v3) (by kernel_rfl) [] (sel_of_eq (by kernel_rfl)) (by decide) (by rw [h0]; rfl) (by kernel_rfl) (fun _ h => all_nil h) (.d (.v _))
          · replace H := iF c14 H
            rw [eqF c14]
            refine goK hT 6 (K44 1111010111111 1) ⟨102, [(1, .ptr 0 0 0 0), (25, .i a0.Kind), (50, .b (a0.Kind == 4))], [.box 26 (eC26 a0)]⟩ ?_
            by_cases c16 : a0.Kind = 4
            · replace H := iT c16 H
              rw [eqT c16]
              refine goK hT 4 (K44 1111010111111100 1) ⟨102, [(1, .ptr 0 0 0 0), (52, .d (eG26 a0))], [.box 26 (eC26 a0)]⟩ ?_
              obtain ⟨v4, h17, H⟩ := ibC H
              have Jj4 : ∀ (y4_2 : Bool), (mut_kind.j4 y4_2) = some r → AK X 44 ((K44 111101011111110 1)) (Back X [] (.b r)) ⟨102, [(2, .b y4_2)], []⟩ := by
                intro y4_2 H
                obtain rfl := retC H
                exact ak_ret hf hX (av := .b y4_2) (by kernel_rfl) [] (sel_of_eq (by kernel_rfl)) (by decide) (by rw [h0]; rfl) (by kernel_rfl) (fun _ h => all_nil h) (.d (.v _))
              refine ak_callP (avs := [.d (eG26 a0), .i 1, .i 1]) (dst := some 53) (k' := (K44 1111010111111100 2)) [1, 53] [] hP enters_64 (mut_pairs.says a0 1 1 h17) (by kernel_rfl) (hands_none _) (.cons (pass_d _) (.cons (pass_d _) (.cons (pass_d _) .nil))) (st' := ⟨102, [(1, .ptr 0 0 0 0), (53, .b v4)], [.box 26 (eC26 a0)]⟩) (by kernel_rfl) ?_
              refine goK hT 1 (K44 1111010111111100 3) ⟨102, [(1, .ptr 0 0 0 0), (54, .b v4)], [.box 26 (eC26 a0)]⟩ ?_
              by_cases c18 : v4 = true
              · replace H := iT c18 H
                rw [c18]
                refine goK hT 2 (K44 1111010111111100 5) ⟨102, [(1, .ptr 0 0 0 0), (54, .b true), (56, .i a0.Old)], [.box 26 (eC26 a0)]⟩ ?_
                refine ak_callP (avs := [.i a0.Old]) (dst := some 57) (k' := (K44 1111010111111100 6)) [1, 54, 57] [] hP enters_66 (mut_value.says a0.Old) (by kernel_rfl) (hands_none _) (.cons (pass_d _) .nil) (st' := ⟨102, [(1, .ptr 0 0 0 0), (54, .b true), (57, .b (mut_value a0.Old))], [.box 26 (eC26 a0)]⟩) (by kernel_rfl) ?_
                refine goK hT 1 (K44 1111010111111100 7) ⟨102, [(1, .ptr 0 0 0 0), (54, .b true), (58, .b (mut_value a0.Old))], [.box 26 (eC26 a0)]⟩ ?_
                by_cases c19 : (mut_value a0.Old) = true
                · replace H := iT c19 H
                  rw [c19]
                  refine goK hT 7 (K44 111101011111110 1) ⟨102, [(2, .b true)], [.box 26 (eC26 a0)]⟩ ?_
                  refine cutK [] ⟨102, [(2, .b true)], []⟩ h0 ?_
                  exact Jj4 true H
                · replace H := iF c19 H
                  rw [boF c19]
                  refine goK hT 7 (K44 111101011111110 1) ⟨102, [(2, .b (a0.Old == 1099511627777))], [.box 26 (eC26 a0)]⟩ ?_
                  refine cutK [] ⟨102, [(2, .b (a0.Old == 1099511627777))], []⟩ h0 ?_
                  exact Jj4 (a0.Old == 1099511627777) H
              · replace H := iF c18 H
                rw [boF c18]
                refine goK hT 11 (K44 111101011111110 1) ⟨102, [(2, .b false)], [.box 26 (eC26 a0)]⟩ ?_
                refine cutK [] ⟨102, [(2, .b false)], []⟩ h0 ?_
                exact Jj4 false H
            · replace H := iF c16 H
              rw [eqF c16]
              refine goK hT 6 (K44 111101011111111 1) ⟨102, [(1, .ptr 0 0 0 0), (64, .b (a0.Kind == 5))], [.box 26 (eC26 a0)]⟩ ?_
              by_cases c20 : a0.Kind = 5
              · replace H := iT c20 H
                rw [eqT c20]
                refine goK hT 2 (K44 11110101111111110 0) ⟨102, [(1, .ptr 0 0 0 0)], [.box 26 (eC26 a0)]⟩ ?_
                obtain ⟨v5, h21, H⟩ := ibC H
                have Jj5 : ∀ (y5_2 : Bool), (mut_kind.j5 y5_2) = some r → AK X 44 ((K44 11110101111111110 1)) (Back X [] (.b r)) ⟨102, [(2, .b y5_2)], []⟩ := by
                  intro y5_2 H
                  obtain rfl := retC H
                  exact ak_ret hf hX (av := .b y5_2) (by kernel_rfl) [] (sel_of_eq (by kernel_rfl)) (by decide) (by rw [h0]; rfl) (by kernel_rfl) (fun _ h => all_nil h) (.d (.v _))
                by_cases c22 : v5 = true
                · replace H := iT c22 H
                  obtain ⟨h23, H⟩ := iC H
                  obtain ⟨h24, H⟩ := iC H
                  by_cases c25 : ((a0.Pairs.getD 0 api_Pair.z).Key) = ((a0.Pairs.getD 1 api_Pair.z).Key)
                  · replace H := iT c25 H
                    refine drawK (hP ▸ mixed) 26 [1] [some (.d (eG26 a0)), some (.b true), some (.b true), some (.ptr 0 0 0 3), some (.d (eL67 true a0.Pairs)), some (.d (eP67 true a0.Pairs 0 0)), some (.d (eP67 true a0.Pairs 0 0)), some (.i ((a0.Pairs.getD 0 api_Pair.z).Key)), some (.ptr 0 0 0 3), some (.d (eL67 true a0.Pairs)), some (.d (eP67 true a0.Pairs 1 0)), some (.d (eP67 true a0.Pairs 1 0)), some (.i ((a0.Pairs.getD 1 api_Pair.z).Key)), some (.b false), some (.b false), some (.b false), some (.tup []), some (.tup []), some (.tup []), some (.tup []), some (.tup []), some (.tup []), some (.tup []), some (.tup []), some (.tup []), some (.tup [])] (opG (opG (opG (opG (opG (opG (opG (opG (opG (opG (opG (opG (opV (opG (opG (opS (opG (opG (opG (opG (opS (opG (opG (opG (opS (opG op0 hT) (fun R rest h => ak_callD (avs := [.d (eG26 a0), .i 2, .i 2]) (dst := some 67) hP enters_64 (by have q := mut_pairs.says a0 2 2 h21; rw [c22] at q; exact q) (by kernel_rfl) (.cons (pass_d _) (.cons (pass_d _) (.cons (pass_d _) .nil))) (by kernel_rfl) h)) hT) hT) hT) (fun R rest h => ak_idx0 hT (i := 0) (n := (a0.Pairs.length : Int)) h23.1 h23.2 (by kernel_rfl) h)) hT) hT) hT) hT) (fun R rest h => ak_idx0 hT (i := 1) (n := (a0.Pairs.length : Int)) h24.1 h24.2 (by kernel_rfl) h)) hT) hT) hT 79 (.b (((a0.Pairs.getD 0 api_Pair.z).Key) != ((a0.Pairs.getD 1 api_Pair.z).Key))) (.b false) (by rw [neF c25])) hT) hT) hT) hT) hT) hT) hT) hT) hT) hT) hT) hT) ?_
                    refine goK hT 12 (K44 11110101111111110 1) ⟨102, [(2, .b false)], [.box 26 (eC26 a0)]⟩ ?_
                    refine cutK [] ⟨102, [(2, .b false)], []⟩ h0 ?_
                    exact Jj5 false H
                  · replace H := iF c25 H
                    refine drawK (hP ▸ mixed) 26 [1] [some (.d (eG26 a0)), some (.b true), some (.b true), some (.ptr 0 0 0 3), some (.d (eL67 true a0.Pairs)), some (.d (eP67 true a0.Pairs 0 0)), some (.d (eP67 true a0.Pairs 0 0)), some (.i ((a0.Pairs.getD 0 api_Pair.z).Key)), some (.ptr 0 0 0 3), some (.d (eL67 true a0.Pairs)), some (.d (eP67 true a0.Pairs 1 0)), some (.d (eP67 true a0.Pairs 1 0)), some (.i ((a0.Pairs.getD 1 api_Pair.z).Key)), some (.b true), some (.b true), some (.b true), some (.ptr 0 0 0 3), some (.d (eL67 true a0.Pairs)), some (.d (eP67 true a0.Pairs 0 0)), some (.d (eP67 true a0.Pairs 0 1)), some (.i ((a0.Pairs.getD 0 api_Pair.z).Val)), some (.ptr 0 0 0 3), some (.d (eL67 true a0.Pairs)), some (.d (eP67 true a0.Pairs 1 0)), some (.d (eP67 true a0.Pairs 1 1)), some (.i ((a0.Pairs.getD 1 api_Pair.z).Val))] (opG (opG (opS (opG (opG (opG (opG (opS (opG (opG (opG (opG (opV (opG (opG (opS (opG (opG (opG (opG (opS (opG (opG (opG (opS (opG op0 hT) (fun R rest h => ak_callD (avs := [.d (eG26 a0), .i 2, .i 2]) (dst := some 67) hP enters_64 (by have q := mut_pairs.says a0 2 2 h21; rw [c22] at q; exact q) (by kernel_rfl) (.cons (pass_d _) (.cons (pass_d _) (.cons (pass_d _) .nil))) (by kernel_rfl) h)) hT) hT) hT) (fun R rest h => ak_idx0 hT (i := 0) (n := (a0.Pairs.length : Int)) h23.1 h23.2 (by kernel_rfl) h)) hT) hT) hT) hT) (fun R rest h => ak_idx0 hT (i := 1) (n := (a0.Pairs.length : Int)) h24.1 h24.2 (by kernel_rfl) h)) hT) hT) hT 79 (.b (((a0.Pairs.getD 0 api_Pair.z).Key) != ((a0.Pairs.getD 1 api_Pair.z).Key))) (.b true) (by rw [neT c25])) hT) hT) hT) hT) (fun R rest h => ak_idx0 hT (i := 0) (n := (a0.Pairs.length : Int)) h23.1 h23.2 (by kernel_rfl) h)) hT) hT) hT) hT) (fun R rest h => ak_idx0 hT (i := 1) (n := (a0.Pairs.length : Int)) h24.1 h24.2 (by kernel_rfl) h)) hT) hT) ?_
                    refine goK hT 3 (K44 111101011111111100 29) ⟨102, [(1, .ptr 0 0 0 0), (94, .b (((a0.Pairs.getD 0 api_Pair.z).Val) == ((a0.Pairs.getD 1 api_Pair.z).Val)))], [.box 26 (eC26 a0)]⟩ ?_
                    by_cases c26 : ((a0.Pairs.getD 0 api_Pair.z).Val) = ((a0.Pairs.getD 1 api_Pair.z).Val)
                    · replace H := iT c26 H
                      rw [eqT c26]
                      refine goK hT 2 (K44 111101011111111100 31) ⟨102, [(94, .b true), (96, .d (eL67 true a0.Pairs))], [.box 26 (eC26 a0)]⟩ ?_
                      refine ak_idx hT [94, 97] (i := 0) (n := (a0.Pairs.length : Int)) h23.1 h23.2 (k' := (K44 111101011111111100 32)) (st' := ⟨102, [(94, .b true), (97, .d (eP67 true a0.Pairs 0 0))], [.box 26 (eC26 a0)]⟩) (by kernel_rfl) ?_
                      refine goK hT 6 (K44 11110101111111110 1) ⟨102, [(2, .b (decide (((a0.Pairs.getD 0 api_Pair.z).Val) ≥ 0)))], [.box 26 (eC26 a0)]⟩ ?_
                      refine cutK [] ⟨102, [(2, .b (decide (((a0.Pairs.getD 0 api_Pair.z).Val) ≥ 0)))], []⟩ h0 ?_
                      exact Jj5 (decide (((a0.Pairs.getD 0 api_Pair.z).Val) ≥ 0)) H
                    · replace H := iF c26 H
                      rw [eqF c26]
                      refine goK hT 9 (K44 11110101111111110 1) ⟨102, [(2, .b false)], [.box 26 (eC26 a0)]⟩ ?_
                      refine cutK [] ⟨102, [(2, .b false)], []⟩ h0 ?_
                      exact Jj5 false H
                · replace H := iF c22 H
                  refine drawK (hP ▸ mixed) 26 [1] [some (.d (eG26 a0)), some (.b false), some (.b false), some (.tup []), some (.tup []), some (.tup []), some (.tup []), some (.tup []), some (.tup []), some (.tup []), some (.tup []), some (.tup []), some (.tup []), some (.tup []), some (.b false), some (.b false), some (.tup []), some (.tup []), some (.tup []), some (.tup []), some (.tup []), some (.tup []), some (.tup []), some (.tup []), some (.tup []), some (.tup [])] (opG (opG (opG (opG (opG (opG (opG (opG (opG (opG (opG (opG (opG (opG (opG (opG (opG (opG (opG (opG (opG (opG (opG (opG (opS (opG op0 hT) (fun R rest h => ak_callD (avs := [.d (eG26 a0), .i 2, .i 2]) (dst := some 67) hP enters_64 (by have q := mut_pairs.says a0 2 2 h21; rw [boF c22] at q; exact q) (by kernel_rfl) (.cons (pass_d _) (.cons (pass_d _) (.cons (pass_d _) .nil))) (by kernel_rfl) h)) hT) hT) hT) hT) hT) hT) hT) hT) hT) hT) hT) hT) hT) hT) hT) hT) hT) hT) hT) hT) hT) hT) hT) hT) ?_
                  refine goK hT 12 (K44 11110101111111110 1) ⟨102, [(2, .b false)], [.box 26 (eC26 a0)]⟩ ?_
                  refine cutK [] ⟨102, [(2, .b false)], []⟩ h0 ?_
                  exact Jj5 false H
              · replace H := iF c20 H
                rw [eqF c20]
                refine goK hT 3 (K44 1111 1) ⟨102, [], [.box 26 (eC26 a0)]⟩ ?_
                refine goK hT 4 (K44 11111 1) ⟨102, [(2, .b false)], [.box 26 (eC26 a0)]⟩ ?_
                obtain rfl := retC H
                exact ak_ret hf hX (av := .b false) (by kernel_rfl) [] (sel_of_eq (by kernel_rfl)) (by decide) (by rw [h0]; rfl) (by kernel_rfl) (fun _ h => all_nil h) (.d (.v _))
  refine goK hT 18 (K44 11100 4) ⟨102, [(1, .ptr 0 0 0 0), (3, .ptr 1 0 0 0), (8, .b (a0.Kind != 2))], [.box 26 (eC26 a0), .box 24 [.i 0, .i 0]]⟩ ?_
  by_cases c1 : a0.Kind = 2
  · replace H := iT c1 H
    rw [neF c1]
    refine goK hT 10 (K44 11100 14) ⟨102, [(1, .ptr 0 0 0 0), (14, .b false), (18, .b (a0.Kind != 4))], [.box 26 (eC26 a0), .box 24 [.i 0, .i 0]]⟩ ?_
    by_cases c2 : a0.Kind = 4
    · replace H := iT c2 H
      rw [neF c2]
      refine goK hT 6 (K44 1110 1) ⟨102, [(1, .ptr 0 0 0 0), (23, .b false)], [.box 26 (eC26 a0), .box 24 [.i 0, .i 0]]⟩ ?_
      refine cutK [0] ⟨102, [(1, .ptr 0 0 0 0), (23, .b false)], [.box 26 (eC26 a0)]⟩ h0 ?_
      exact Jj1 false H
    · replace H := iF c2 H
      rw [neT c2]
      refine goK hT 6 (K44 1110 1) ⟨102, [(1, .ptr 0 0 0 0), (23, .b (a0.Old != 0))], [.box 26 (eC26 a0), .box 24 [.i 0, .i 0]]⟩ ?_
      refine cutK [0] ⟨102, [(1, .ptr 0 0 0 0), (23, .b (a0.Old != 0))], [.box 26 (eC26 a0)]⟩ h0 ?_
      exact Jj1 (a0.Old != 0) H
  · replace H := iF c1 H
    rw [neT c1]
    refine goK hT 6 (K44 11100 10) ⟨102, [(1, .ptr 0 0 0 0), (14, .b (!((a0.Over.Lo == 0) && (a0.Over.Hi == 0))))], [.box 26 (eC26 a0), .box 24 [.i 0, .i 0]]⟩ ?_
    by_cases c3 : a0.Over.Lo = 0
    · replace H := iT c3 H
      rw [eqT c3]
      by_cases c4 : a0.Over.Hi = 0
      · replace H := iT c4 H
        rw [eqT c4]
        refine goK hT 4 (K44 11100 14) ⟨102, [(1, .ptr 0 0 0 0), (14, .b false), (18, .b (a0.Kind != 4))], [.box 26 (eC26 a0), .box 24 [.i 0, .i 0]]⟩ ?_
        by_cases c5 : a0.Kind = 4
        · replace H := iT c5 H
          rw [neF c5]
          refine goK hT 6 (K44 1110 1) ⟨102, [(1, .ptr 0 0 0 0), (23, .b false)], [.box 26 (eC26 a0), .box 24 [.i 0, .i 0]]⟩ ?_
          refine cutK [0] ⟨102, [(1, .ptr 0 0 0 0), (23, .b false)], [.box 26 (eC26 a0)]⟩ h0 ?_
          exact Jj1 false H
        · replace H := iF c5 H
          rw [neT c5]
          refine goK hT 6 (K44 1110 1) ⟨102, [(1, .ptr 0 0 0 0), (23, .b (a0.Old != 0))], [.box 26 (eC26 a0), .box 24 [.i 0, .i 0]]⟩ ?_
          refine cutK [0] ⟨102, [(1, .ptr 0 0 0 0), (23, .b (a0.Old != 0))], [.box 26 (eC26 a0)]⟩ h0 ?_
          exact Jj1 (a0.Old != 0) H
      · replace H := iF c4 H
        rw [eqF c4]
        refine goK hT 10 (K44 1110 1) ⟨102, [(1, .ptr 0 0 0 0), (23, .b true)], [.box 26 (eC26 a0), .box 24 [.i 0, .i 0]]⟩ ?_
        refine cutK [0] ⟨102, [(1, .ptr 0 0 0 0), (23, .b true)], [.box 26 (eC26 a0)]⟩ h0 ?_
        exact Jj1 true H
    · replace H := iF c3 H
      rw [eqF c3]
      by_cases c6 : a0.Over.Hi = 0
      · replace H := iT c6 H
        rw [eqT c6]
        refine goK hT 10 (K44 1110 1) ⟨102, [(1, .ptr 0 0 0 0), (23, .b true)], [.box 26 (eC26 a0), .box 24 [.i 0, .i 0]]⟩ ?_
        refine cutK [0] ⟨102, [(1, .ptr 0 0 0 0), (23, .b true)], [.box 26 (eC26 a0)]⟩ h0 ?_
        exact Jj1 true H
      · replace H := iF c6 H
        rw [eqF c6]
        refine goK hT 10 (K44 1110 1) ⟨102, [(1, .ptr 0 0 0 0), (23, .b true)], [.box 26 (eC26 a0), .box 24 [.i 0, .i 0]]⟩ ?_
        refine cutK [0] ⟨102, [(1, .ptr 0 0 0 0), (23, .b true)], [.box 26 (eC26 a0)]⟩ h0 ?_
        exact Jj1 true H


theorem mut_Check.says (a0 : api_Mut) {r : Bool} (H : mut_Check a0 = some r) : Says Try.prog 18 [] [.d (eG26 a0)] [] (.b r) := by
  refine says_of Try.func18 rfl (nt := 25) rfl (Nat.le_of_ble_eq_true rfl) fun X hP h0 hX => ?_
  have hT : TabOk X.P T := hP ▸ tok
  have hf : X.P.funcs[18]? = some Try.f18 := hP ▸ Try.func18
  have Jj1 : ∀ (y1_2 : Bool), (mut_Check.j1 y1_2) = some r → AK X 18 ((K18 11 1)) (Back X [] (.b r)) ⟨25, [(2, .b y1_2)], []⟩ := by
    intro y1_2 H
    obtain rfl := retC H
    exact ak_ret hf hX (av := .b y1_2) (by kernel_rfl) [] (sel_of_eq (by kernel_rfl)) (by decide) (by rw [h0]; rfl) (by kernel_rfl) (fun _ h => all_nil h) (.d (.v _))
  refine goK hT 11 (K18 110 4) ⟨25, [(1, .ptr 0 0 0 0), (6, .b (decide (a0.Client ≥ 1)))], [.box 26 (eC26 a0)]⟩ ?_
  by_cases c1 : a0.Client ≥ 1
  · replace H := iT c1 H
    rw [decide_eq_true c1]
    refine goK hT 5 (K18 110 9) ⟨25, [(1, .ptr 0 0 0 0), (11, .b (decide (a0.Client ≤ 1048576)))], [.box 26 (eC26 a0)]⟩ ?_
    by_cases c2 : a0.Client ≤ 1048576
    · replace H := iT c2 H
      rw [decide_eq_true c2]
      refine goK hT 5 (K18 110 14) ⟨25, [(1, .ptr 0 0 0 0), (16, .b (decide (a0.Seq ≥ 1)))], [.box 26 (eC26 a0)]⟩ ?_
      by_cases c3 : a0.Seq ≥ 1
      · replace H := iT c3 H
        rw [decide_eq_true c3]
        refine goK hT 5 (K18 110 19) ⟨25, [(1, .ptr 0 0 0 0), (21, .b (decide (a0.Seq ≤ 1073741824)))], [.box 26 (eC26 a0)]⟩ ?_
        by_cases c4 : a0.Seq ≤ 1073741824
        · replace H := iT c4 H
          rw [decide_eq_true c4]
          refine goK hT 1 (K18 110 20) ⟨25, [(21, .b true), (22, .d (eG26 a0))], [.box 26 (eC26 a0)]⟩ ?_
          obtain ⟨v1, h5, H⟩ := ibC H
          refine ak_callP (avs := [.d (eG26 a0)]) (dst := some 23) (k' := (K18 110 21)) [21, 23] [] hP enters_44 (mut_kind.says a0 h5) (by kernel_rfl) (hands_none _) (.cons (pass_d _) .nil) (st' := ⟨25, [(21, .b true), (23, .b v1)], [.box 26 (eC26 a0)]⟩) (by kernel_rfl) ?_
          refine goK hT 3 (K18 11 1) ⟨25, [(2, .b v1)], [.box 26 (eC26 a0)]⟩ ?_
          refine cutK [] ⟨25, [(2, .b v1)], []⟩ h0 ?_
          exact Jj1 v1 H
        · replace H := iF c4 H
          rw [decide_eq_false c4]
          refine goK hT 5 (K18 11 1) ⟨25, [(2, .b false)], [.box 26 (eC26 a0)]⟩ ?_
          refine cutK [] ⟨25, [(2, .b false)], []⟩ h0 ?_
          exact Jj1 false H
      · replace H := iF c3 H
        rw [decide_eq_false c3]
        refine goK hT 10 (K18 11 1) ⟨25, [(2, .b false)], [.box 26 (eC26 a0)]⟩ ?_
        refine cutK [] ⟨25, [(2, .b false)], []⟩ h0 ?_
        exact Jj1 false H
    · replace H := iF c2 H
      rw [decide_eq_false c2]
      refine goK hT 15 (K18 11 1) ⟨25, [(2, .b false)], [.box 26 (eC26 a0)]⟩ ?_
      refine cutK [] ⟨25, [(2, .b false)], []⟩ h0 ?_
      exact Jj1 false H
  · replace H := iF c1 H
    rw [decide_eq_false c1]
    refine goK hT 20 (K18 11 1) ⟨25, [(2, .b false)], [.box 26 (eC26 a0)]⟩ ?_
    refine cutK [] ⟨25, [(2, .b false)], []⟩ h0 ?_
    exact Jj1 false H


theorem slices_IndexFunc_api_Span.says {t0 : Bool} {ff1 : FuncId} {cc1 : List DV} (a0 : List api_Span) (p1 : api_Span → Option Bool) (he1 : Sy.Enters Try.prog ff1) (hp1 : ∀ (z0 : api_Span) r, p1 z0 = some r → Says Try.prog ff1 [] ([.d (eG24 z0)] ++ List.map AV.d cc1) [] (.b r)) {r : Int} (H : slices_IndexFunc_api_Span a0 p1 = some r) : Says Try.prog 73 [] [.d (eL24 t0 a0), .d (.fn ff1 cc1)] [] (.i r) := by
  refine says_of Try.func73 rfl (nt := 19) rfl (Nat.le_of_ble_eq_true rfl) fun X hP h0 hX => ?_
  have hT : TabOk X.P T := hP ▸ tok
  have hf : X.P.funcs[73]? = some Try.f73 := hP ▸ Try.func73
  refine goK hT 13 (K73 11010 0) ⟨19, [(0, .d (eL24 t0 a0)), (1, .d (.fn ff1 cc1)), (7, .i (a0.length : Int)), (8, .i 0)], []⟩ ?_
  have L : ∀ n, (∀ (x1_8 : Int), iter (slices_IndexFunc_api_Span.step a0 p1) n (.l1 x1_8) = some r → AK X 73 ((K73 11010 0)) (Back X [] (.i r)) ⟨19, [(0, .d (eL24 t0 a0)), (1, .d (.fn ff1 cc1)), (7, .i (a0.length : Int)), (8, .i x1_8)], []⟩) := by
    intro n
    induction n with
    | zero => exact fun _ H => iter0 H
    | succ n ih =>
      · intro x1_8 H
        refine goK hT 5 (K73 1101001 0) ⟨19, [(0, .d (eL24 t0 a0)), (1, .d (.fn ff1 cc1)), (7, .i (a0.length : Int)), (8, .i x1_8), (9, .b (decide (x1_8 < (a0.length : Int))))], []⟩ ?_
        by_cases c1 : x1_8 < (a0.length : Int)
        · replace H := sT c1 H
          rw [decide_eq_true c1]
          refine goK hT 2 (K73 1101001 1) ⟨19, [(0, .d (eL24 t0 a0)), (1, .d (.fn ff1 cc1)), (7, .i (a0.length : Int)), (8, .i x1_8)], []⟩ ?_
          refine goK hT 12 (K73 110100110010 3) ⟨19, [(0, .d (eL24 t0 a0)), (1, .d (.fn ff1 cc1)), (5, .i x1_8), (7, .i (a0.length : Int)), (8, .i x1_8), (11, .d (.fn ff1 cc1)), (12, .d (eL24 t0 a0)), (13, .i x1_8)], []⟩ ?_
          obtain ⟨h2, H⟩ := sC H
          refine ak_idx hT [0, 1, 5, 7, 8, 11, 14] (i := x1_8) (n := (a0.length : Int)) h2.1 h2.2 (k' := (K73 110100110010 4)) (st' := ⟨19, [(0, .d (eL24 t0 a0)), (1, .d (.fn ff1 cc1)), (5, .i x1_8), (7, .i (a0.length : Int)), (8, .i x1_8), (11, .d (.fn ff1 cc1)), (14, .d (eP24 t0 a0 x1_8.toNat 0))], []⟩) (by kernel_rfl) ?_
          refine goK hT 1 (K73 110100110010 5) ⟨19, [(0, .d (eL24 t0 a0)), (1, .d (.fn ff1 cc1)), (5, .i x1_8), (7, .i (a0.length : Int)), (8, .i x1_8), (11, .d (.fn ff1 cc1)), (15, .d (eG24 (a0.getD x1_8.toNat api_Span.z)))], []⟩ ?_
          obtain ⟨v1, h3, H⟩ := sbC H
          refine ak_callP (avs := [.d (eG24 (a0.getD x1_8.toNat api_Span.z))] ++ List.map AV.d cc1) (dst := some 16) (k' := (K73 110100110010 6)) [0, 1, 5, 7, 8, 16] [] hP he1 (hp1 (a0.getD x1_8.toNat api_Span.z) v1 h3) (by kernel_rfl) (hands_none _) (.cons (pass_d _) (passes_d _)) (st' := ⟨19, [(0, .d (eL24 t0 a0)), (1, .d (.fn ff1 cc1)), (5, .i x1_8), (7, .i (a0.length : Int)), (8, .i x1_8), (16, .b v1)], []⟩) (by kernel_rfl) ?_
          refine goK hT 1 (K73 11010011001 1) ⟨19, [(0, .d (eL24 t0 a0)), (1, .d (.fn ff1 cc1)), (5, .i x1_8), (7, .i (a0.length : Int)), (8, .i x1_8), (16, .b v1)], []⟩ ?_
          by_cases c4 : v1 = true
          · replace H := sT c4 H
            rw [c4]
            refine goK hT 6 (K73 1101001100110 1) ⟨19, [(4, .i x1_8)], []⟩ ?_
            obtain rfl := retC H
            exact ak_ret hf hX (av := .i x1_8) (by kernel_rfl) [] (sel_of_eq (by kernel_rfl)) (by decide) (by rw [h0]; rfl) (by kernel_rfl) (fun _ h => all_nil h) (.d (.v _))
          · replace H := sF c4 H
            rw [boF c4]
            refine goK hT 3 (K73 11010011 1) ⟨19, [(0, .d (eL24 t0 a0)), (1, .d (.fn ff1 cc1)), (7, .i (a0.length : Int)), (8, .i x1_8)], []⟩ ?_
            refine goK hT 5 (K73 11010 0) ⟨19, [(0, .d (eL24 t0 a0)), (1, .d (.fn ff1 cc1)), (7, .i (a0.length : Int)), (8, .i (IntKind.wrap .i64 (x1_8 + 1)))], []⟩ ?_
            refine cutK [] ⟨19, [(0, .d (eL24 t0 a0)), (1, .d (.fn ff1 cc1)), (7, .i (a0.length : Int)), (8, .i (IntKind.wrap .i64 (x1_8 + 1)))], []⟩ h0 ?_
            exact ih (IntKind.wrap .i64 (x1_8 + 1)) H
        · replace H := sF c1 H
          rw [decide_eq_false c1]
          refine goK hT 6 (K73 111 1) ⟨19, [(4, .i (-1))], []⟩ ?_
          obtain rfl := retC H
          exact ak_ret hf hX (av := .i (-1)) (by kernel_rfl) [] (sel_of_eq (by kernel_rfl)) (by decide) (by rw [h0]; rfl) (by kernel_rfl) (fun _ h => all_nil h) (.d (.v _))
  refine cutK [] ⟨19, [(0, .d (eL24 t0 a0)), (1, .d (.fn ff1 cc1)), (7, .i (a0.length : Int)), (8, .i 0)], []⟩ h0 ?_
  obtain ⟨n, H⟩ := loopC H
  exact (L n) 0 H


theorem slices_ContainsFunc_api_Span.says {t0 : Bool} {ff1 : FuncId} {cc1 : List DV} (a0 : List api_Span) (p1 : api_Span → Option Bool) (he1 : Sy.Enters Try.prog ff1) (hp1 : ∀ (z0 : api_Span) r, p1 z0 = some r → Says Try.prog ff1 [] ([.d (eG24 z0)] ++ List.map AV.d cc1) [] (.b r)) {r : Bool} (H : slices_ContainsFunc_api_Span a0 p1 = some r) : Says Try.prog 50 [] [.d (eL24 t0 a0), .d (.fn ff1 cc1)] [] (.b r) := by
  refine says_of Try.func50 rfl (nt := 9) rfl (Nat.le_of_ble_eq_true rfl) fun X hP h0 hX => ?_
  have hT : TabOk X.P T := hP ▸ tok
  have hf : X.P.funcs[50]? = some Try.f50 := hP ▸ Try.func50
  refine goK hT 8 (K50 110 2) ⟨9, [(5, .d (eL24 t0 a0)), (6, .d (.fn ff1 cc1))], []⟩ ?_
  obtain ⟨v1, h1, H⟩ := ibC H
  refine ak_callP (avs := [.d (eL24 t0 a0), .d (.fn ff1 cc1)]) (dst := some 7) (k' := (K50 110 3)) [7] [] hP enters_73 (slices_IndexFunc_api_Span.says (t0 := t0) (ff1 := ff1) (cc1 := cc1) a0 p1 he1 hp1 h1) (by kernel_rfl) (hands_none _) (.cons (pass_d _) (.cons (pass_d _) .nil)) (st' := ⟨9, [(7, .i v1)], []⟩) (by kernel_rfl) ?_
  refine goK hT 3 (K50 11 1) ⟨9, [(4, .b (decide (v1 ≥ 0)))], []⟩ ?_
  obtain rfl := retC H
  exact ak_ret hf hX (av := .b (decide (v1 ≥ 0))) (by kernel_rfl) [] (sel_of_eq (by kernel_rfl)) (by decide) (by rw [h0]; rfl) (by kernel_rfl) (fun _ h => all_nil h) (.d (.v _))


theorem span_odd.says (a0 : api_Span) : Says Try.prog 68 [] [.d (eG24 a0)] [] (.b (span_odd a0)) := by
  obtain ⟨r, H⟩ : ∃ r, span_odd a0 = r := ⟨_, rfl⟩
  rw [H]
  refine says_of Try.func68 rfl (nt := 6) rfl (Nat.le_of_ble_eq_true rfl) fun X hP h0 hX => ?_
  have hT : TabOk X.P T := hP ▸ tok
  have hf : X.P.funcs[68]? = some Try.f68 := hP ▸ Try.func68
  refine goK hT 8 (K68 110 1) ⟨6, [(3, .d (eG24 a0))], [.box 24 (eC24 a0)]⟩ ?_
  refine ak_callP (avs := [.d (eG24 a0)]) (dst := some 4) (k' := (K68 110 2)) [4] [] hP enters_49 (span_One.says a0) (by kernel_rfl) (hands_none _) (.cons (pass_d _) .nil) (st' := ⟨6, [(4, .b (span_One a0))], [.box 24 (eC24 a0)]⟩) (by kernel_rfl) ?_
  refine goK hT 3 (K68 11 1) ⟨6, [(2, .b (!(span_One a0)))], [.box 24 (eC24 a0)]⟩ ?_
  obtain rfl := H
  exact ak_ret hf hX (av := .b (!(span_One a0))) (by kernel_rfl) [] (sel_of_eq (by kernel_rfl)) (by decide) (by rw [h0]; rfl) (by kernel_rfl) (fun _ h => all_nil h) (.d (.v _))


theorem cmp_isNaN_int.says (a0 : Int) : Says Try.prog 67 [] [.i a0] [] (.b (cmp_isNaN_int a0)) := by
  obtain ⟨r, H⟩ : ∃ r, cmp_isNaN_int a0 = r := ⟨_, rfl⟩
  rw [H]
  refine says_of Try.func67 rfl (nt := 6) rfl (Nat.le_of_ble_eq_true rfl) fun X hP h0 hX => ?_
  have hT : TabOk X.P T := hP ▸ tok
  have hf : X.P.funcs[67]? = some Try.f67 := hP ▸ Try.func67
  refine goK hT 11 (K67 11 1) ⟨6, [(2, .b (a0 != a0))], []⟩ ?_
  obtain rfl := H
  exact ak_ret hf hX (av := .b (a0 != a0)) (by kernel_rfl) [] (sel_of_eq (by kernel_rfl)) (by decide) (by rw [h0]; rfl) (by kernel_rfl) (fun _ h => all_nil h) (.d (.v _))


theorem cmp_Compare_int.says (a0 : Int) (a1 : Int) : Says Try.prog 46 [] [.i a0, .i a1] [] (.i (cmp_Compare_int a0 a1)) := by
  obtain ⟨r, H⟩ : ∃ r, cmp_Compare_int a0 a1 = r := ⟨_, rfl⟩
  rw [H]
  refine says_of Try.func46 rfl (nt := 20) rfl (Nat.le_of_ble_eq_true rfl) fun X hP h0 hX => ?_
  have hT : TabOk X.P T := hP ▸ tok
  have hf : X.P.funcs[46]? = some Try.f46 := hP ▸ Try.func46
  refine goK hT 7 (K46 110 1) ⟨20, [(0, .i a0), (1, .i a1), (7, .i a0)], []⟩ ?_
  refine ak_callP (avs := [.i a0]) (dst := some 8) (k' := (K46 110 2)) [0, 1, 8] [] hP enters_67 (cmp_isNaN_int.says a0) (by kernel_rfl) (hands_none _) (.cons (pass_d _) .nil) (st' := ⟨20, [(0, .i a0), (1, .i a1), (8, .b (cmp_isNaN_int a0))], []⟩) (by kernel_rfl) ?_
  refine goK hT 5 (K46 1110 1) ⟨20, [(0, .i a0), (1, .i a1), (5, .b (cmp_isNaN_int a0)), (9, .i a1)], []⟩ ?_
  refine ak_callP (avs := [.i a1]) (dst := some 10) (k' := (K46 1110 2)) [0, 1, 5, 10] [] hP enters_67 (cmp_isNaN_int.says a1) (by kernel_rfl) (hands_none _) (.cons (pass_d _) .nil) (st' := ⟨20, [(0, .i a0), (1, .i a1), (5, .b (cmp_isNaN_int a0)), (10, .b (cmp_isNaN_int a1))], []⟩) (by kernel_rfl) ?_
  refine goK hT 7 (K46 11110 1) ⟨20, [(0, .i a0), (1, .i a1), (6, .b (cmp_isNaN_int a1)), (11, .b (cmp_isNaN_int a0))], []⟩ ?_
  by_cases c1 : (cmp_isNaN_int a0) = true
  · replace H := iT c1 H
    rw [c1]
    refine goK hT 6 (K46 11110100 1) ⟨20, [(12, .b (cmp_isNaN_int a1))], []⟩ ?_
    by_cases c2 : (cmp_isNaN_int a1) = true
    · replace H := iT c2 H
      rw [c2]
      refine goK hT 5 (K46 1111010010 1) ⟨20, [(4, .i 0)], []⟩ ?_
      obtain rfl := H
      exact ak_ret hf hX (av := .i 0) (by kernel_rfl) [] (sel_of_eq (by kernel_rfl)) (by decide) (by rw [h0]; rfl) (by kernel_rfl) (fun _ h => all_nil h) (.d (.v _))
    · replace H := iF c2 H
      rw [boF c2]
      refine goK hT 2 (K46 1111010 1) ⟨20, [], []⟩ ?_
      refine goK hT 4 (K46 11110101 1) ⟨20, [(4, .i (-1))], []⟩ ?_
      obtain rfl := H
      exact ak_ret hf hX (av := .i (-1)) (by kernel_rfl) [] (sel_of_eq (by kernel_rfl)) (by decide) (by rw [h0]; rfl) (by kernel_rfl) (fun _ h => all_nil h) (.d (.v _))
  · replace H := iF c1 H
    rw [boF c1]
    refine goK hT 2 (K46 1111 1) ⟨20, [(0, .i a0), (1, .i a1), (6, .b (cmp_isNaN_int a1))], []⟩ ?_
    refine goK hT 5 (K46 111110 1) ⟨20, [(0, .i a0), (1, .i a1), (13, .b (cmp_isNaN_int a1))], []⟩ ?_
    by_cases c3 : (cmp_isNaN_int a1) = true
    · replace H := iT c3 H
      rw [c3]
      refine goK hT 5 (K46 11111010 1) ⟨20, [(4, .i 1)], []⟩ ?_
      obtain rfl := H
      exact ak_ret hf hX (av := .i 1) (by kernel_rfl) [] (sel_of_eq (by kernel_rfl)) (by decide) (by rw [h0]; rfl) (by kernel_rfl) (fun _ h => all_nil h) (.d (.v _))
    · replace H := iF c3 H
      rw [boF c3]
      refine goK hT 2 (K46 11111 1) ⟨20, [(0, .i a0), (1, .i a1)], []⟩ ?_
      refine goK hT 7 (K46 1111110 1) ⟨20, [(0, .i a0), (1, .i a1), (16, .b (decide (a0 < a1)))], []⟩ ?_
      by_cases c4 : a0 < a1
      · replace H := iT c4 H
        rw [decide_eq_true c4]
        refine goK hT 5 (K46 111111010 1) ⟨20, [(4, .i (-1))], []⟩ ?_
        obtain rfl := H
        exact ak_ret hf hX (av := .i (-1)) (by kernel_rfl) [] (sel_of_eq (by kernel_rfl)) (by decide) (by rw [h0]; rfl) (by kernel_rfl) (fun _ h => all_nil h) (.d (.v _))
      · replace H := iF c4 H
        rw [decide_eq_false c4]
        refine goK hT 2 (K46 111111 1) ⟨20, [(0, .i a0), (1, .i a1)], []⟩ ?_
        refine goK hT 7 (K46 11111110 1) ⟨20, [(19, .b (decide (a0 > a1)))], []⟩ ?_
        by_cases c5 : a0 > a1
        · replace H := iT c5 H
          rw [decide_eq_true c5]
          refine goK hT 5 (K46 1111111010 1) ⟨20, [(4, .i 1)], []⟩ ?_
          obtain rfl := H
          exact ak_ret hf hX (av := .i 1) (by kernel_rfl) [] (sel_of_eq (by kernel_rfl)) (by decide) (by rw [h0]; rfl) (by kernel_rfl) (fun _ h => all_nil h) (.d (.v _))
        · replace H := iF c5 H
          rw [decide_eq_false c5]
          refine goK hT 2 (K46 1111111 1) ⟨20, [], []⟩ ?_
          refine goK hT 4 (K46 11111111 1) ⟨20, [(4, .i 0)], []⟩ ?_
          obtain rfl := H
          exact ak_ret hf hX (av := .i 0) (by kernel_rfl) [] (sel_of_eq (by kernel_rfl)) (by decide) (by rw [h0]; rfl) (by kernel_rfl) (fun _ h => all_nil h) (.d (.v _))


theorem span_Make_1.says (a0 : api_Span) (a1 : api_Span) : Says Try.prog 71 [] [.d (eG24 a0), .d (eG24 a1)] [] (.i (span_Make_1 a0 a1)) := by
  obtain ⟨r, H⟩ : ∃ r, span_Make_1 a0 a1 = r := ⟨_, rfl⟩
  rw [H]
  refine says_of Try.func71 rfl (nt := 10) rfl (Nat.le_of_ble_eq_true rfl) fun X hP h0 hX => ?_
  have hT : TabOk X.P T := hP ▸ tok
  have hf : X.P.funcs[71]? = some Try.f71 := hP ▸ Try.func71
  refine goK hT 12 (K71 110 4) ⟨10, [(6, .i a0.Lo), (8, .i a1.Lo)], [.box 24 (eC24 a0), .box 24 (eC24 a1)]⟩ ?_
  refine ak_callP (avs := [.i a0.Lo, .i a1.Lo]) (dst := some 9) (k' := (K71 110 5)) [9] [] hP enters_46 (cmp_Compare_int.says a0.Lo a1.Lo) (by kernel_rfl) (hands_none _) (.cons (pass_d _) (.cons (pass_d _) .nil)) (st' := ⟨10, [(9, .i (cmp_Compare_int a0.Lo a1.Lo))], [.box 24 (eC24 a0), .box 24 (eC24 a1)]⟩) (by kernel_rfl) ?_
  refine goK hT 2 (K71 11 1) ⟨10, [(4, .i (cmp_Compare_int a0.Lo a1.Lo))], [.box 24 (eC24 a0), .box 24 (eC24 a1)]⟩ ?_
  obtain rfl := H
  exact ak_ret hf hX (av := .i (cmp_Compare_int a0.Lo a1.Lo)) (by kernel_rfl) [] (sel_of_eq (by kernel_rfl)) (by decide) (by rw [h0]; rfl) (by kernel_rfl) (fun _ h => all_nil h) (.d (.v _))


theorem span_limited.says (a0 : List api_Span) : Says Try.prog 72 [] [.d (eL24 true a0)] [] (.tup [.d (eL24 true ((span_limited a0).1)), .i ((span_limited a0).2)]) := by
  obtain ⟨r, H⟩ : ∃ r, span_limited a0 = r := ⟨_, rfl⟩
  rw [H]
  refine says_of Try.func72 rfl (nt := 8) rfl (Nat.le_of_ble_eq_true rfl) fun X hP h0 hX => ?_
  have hT : TabOk X.P T := hP ▸ tok
  have hf : X.P.funcs[72]? = some Try.f72 := hP ▸ Try.func72
  refine goK hT 12 (K72 110 1) ⟨8, [(0, .d (eL24 true a0)), (6, .b (decide ((a0.length : Int) > 64)))], []⟩ ?_
  by_cases c1 : (a0.length : Int) > 64
  · replace H := iT c1 H
    rw [decide_eq_true c1]
    refine goK hT 6 (K72 11010 1) ⟨8, [(2, .ns), (3, .i 2)], []⟩ ?_
    refine ak_sealS (av := .d (.v (.slice none 0 0))) (y := eL24 true ([] : List api_Span)) [2, 3] 2 (st' := ⟨8, [(2, .d (eL24 true ([] : List api_Span))), (3, .i 2)], []⟩) (by kernel_rfl) (.nil _) (by kernel_rfl) ?_
    obtain rfl := H
    exact ak_ret hf hX (av := .tup [.d (eL24 true ([] : List api_Span)), .i 2]) (by kernel_rfl) [] (sel_of_eq (by kernel_rfl)) (by decide) (by rw [h0]; rfl) (by kernel_rfl) (fun _ h => all_nil h) (.tup (.cons (.d (.sl fun _ _ => api_Span.nl _)) (.cons (.d (.v _)) .nil)))
  · replace H := iF c1 H
    rw [decide_eq_false c1]
    refine goK hT 2 (K72 11 1) ⟨8, [(0, .d (eL24 true a0))], []⟩ ?_
    refine goK hT 6 (K72 111 1) ⟨8, [(2, .d (eL24 true a0)), (3, .i 0)], []⟩ ?_
    obtain rfl := H
    exact ak_ret hf hX (av := .tup [.d (eL24 true a0), .i 0]) (by kernel_rfl) [] (sel_of_eq (by kernel_rfl)) (by decide) (by rw [h0]; rfl) (by kernel_rfl) (fun _ h => all_nil h) (.tup (.cons (.d (.sl fun _ _ => api_Span.nl _)) (.cons (.d (.v _)) .nil)))


theorem span_Make.says (a0 : List api_Span) {r : (List api_Span) × Int} (H : span_Make a0 = some r) : Says Try.prog 48 [] [.d (eL24 true a0)] [] (.tup [.d (eL24 true r.1), .i r.2]) := by
  refine says_of Try.func48 rfl (nt := 56) rfl (Nat.le_of_ble_eq_true rfl) fun X hP h0 hX => ?_
  have hT : TabOk X.P T := hP ▸ tok
  have hf : X.P.funcs[48]? = some Try.f48 := hP ▸ Try.func48
  refine goK hT 9 (K48 1100 1) ⟨56, [(0, .d (eL24 true a0)), (9, .d (eL24 true a0))], []⟩ ?_
  obtain ⟨v1, h1, H⟩ := ibC H
  refine ak_callP (avs := [.d (eL24 true a0), .d (.fn 68 [])]) (dst := some 10) (k' := (K48 1100 2)) [0, 10] [] hP enters_50 (slices_ContainsFunc_api_Span.says (t0 := true) (ff1 := 68) (cc1 := []) a0 (fun z0 => some (span_odd z0)) enters_68 (fun z0 r h => by obtain rfl := retC h; exact span_odd.says z0) h1) (by kernel_rfl) (hands_none _) (.cons (pass_d _) (.cons (pass_d _) .nil)) (st' := ⟨56, [(0, .d (eL24 true a0)), (10, .b v1)], []⟩) (by kernel_rfl) ?_
  refine goK hT 1 (K48 110 1) ⟨56, [(0, .d (eL24 true a0)), (10, .b v1)], []⟩ ?_
  by_cases c2 : v1 = true
  · replace H := iT c2 H
    rw [c2]
    refine goK hT 6 (K48 11010 1) ⟨56, [(2, .ns), (3, .i 1)], []⟩ ?_
    refine ak_sealS (av := .d (.v (.slice none 0 0))) (y := eL24 true ([] : List api_Span)) [2, 3] 2 (st' := ⟨56, [(2, .d (eL24 true ([] : List api_Span))), (3, .i 1)], []⟩) (by kernel_rfl) (.nil _) (by kernel_rfl) ?_
    obtain rfl := retC H
    exact ak_ret hf hX (av := .tup [.d (eL24 true ([] : List api_Span)), .i 1]) (by kernel_rfl) [] (sel_of_eq (by kernel_rfl)) (by decide) (by rw [h0]; rfl) (by kernel_rfl) (fun _ h => all_nil h) (.tup (.cons (.d (.sl fun _ _ => api_Span.nl _)) (.cons (.d (.v _)) .nil)))
  · replace H := iF c2 H
    rw [boF c2]
    refine goK hT 2 (K48 11 1) ⟨56, [(0, .d (eL24 true a0))], []⟩ ?_
    refine goK hT 3 (K48 1110 1) ⟨56, [(11, .d (eL24 true a0))], []⟩ ?_
    refine ak_callP (avs := [.d (eL24 true a0)]) (dst := some 12) (k' := (K48 1110 2)) [12] [] hP enters_70 (values70 a0) (by kernel_rfl) (hands_none _) (.cons (pass_d _) .nil) (st' := ⟨56, [(12, .fn 85 [.ptr 0 0 0 0])], [.box 48 [.d (eL24 true a0)]]⟩) (by kernel_rfl) ?_
    obtain ⟨h3, H⟩ := iC H
    refine ak_callP (avs := [.fn 85 [.ptr 0 0 0 0], .d (.fn 71 [])]) (dst := some 13) (k' := (K48 1110 3)) [13] [] hP enters_69 (sortedFunc69 (tg := true) enters_71 span_Make_1 swo_span_Make_1 (fun x y => span_Make_1.says x y) a0 h3) (by kernel_rfl) (hands_none _) (.cons (.fn 85 (.cons (.look (ty := 48) (cs := [eL24 true a0]) (by kernel_rfl) rfl) .nil)) (.cons (pass_d _) .nil)) (st' := ⟨56, [(13, .own 1 2 0 ((sortL api_Span.z span_Make_1 a0).length))], [.box 48 [.d (eL24 true a0)], eR24 (sortL api_Span.z span_Make_1 a0)]⟩) (by kernel_rfl) ?_
    refine goK hT 15 (K48 11111010 0) ⟨56, [(5, .ns), (14, .own 1 2 0 ((sortL api_Span.z span_Make_1 a0).length)), (15, .i ((sortL api_Span.z span_Make_1 a0).length : Int)), (16, .i 0)], [.box 48 [.d (eL24 true a0)], eR24 (sortL api_Span.z span_Make_1 a0)]⟩ ?_
    refine ak_nilS [5, 14, 15, 16] 5 2 24 (vec api_Span.e api_Span.z []) (st' := ⟨56, [(5, .own 2 2 0 0), (14, .own 1 2 0 ((sortL api_Span.z span_Make_1 a0).length)), (15, .i ((sortL api_Span.z span_Make_1 a0).length : Int)), (16, .i 0)], [.box 48 [.d (eL24 true a0)], eR24 (sortL api_Span.z span_Make_1 a0), eR24 ([] : List api_Span)]⟩) (by kernel_rfl) (by kernel_rfl) ?_
    have L : ∀ n, (∀ (x1_16 : Int) (x1_r0 : List api_Span), iter (span_Make.step a0) n (.l1 x1_16 x1_r0) = some r → AK X 48 ((K48 11111010 0)) (Back X [] (.tup [.d (eL24 true r.1), .i r.2])) ⟨56, [(5, .own 0 2 0 x1_r0.length), (14, .own 1 2 0 ((sortL api_Span.z span_Make_1 a0).length)), (15, .i ((sortL api_Span.z span_Make_1 a0).length : Int)), (16, .i x1_16)], [eR24 x1_r0, eR24 (sortL api_Span.z span_Make_1 a0)]⟩) := by
      intro n
      induction n with
      | zero => exact fun _ _ H => iter0 H
      | succ n ih =>
        · intro x1_16 x1_r0 H
          refine goK hT 5 (K48 1111101001 0) ⟨56, [(5, .own 0 2 0 x1_r0.length), (14, .own 1 2 0 ((sortL api_Span.z span_Make_1 a0).length)), (15, .i ((sortL api_Span.z span_Make_1 a0).length : Int)), (16, .i x1_16), (17, .b (decide (x1_16 < ((sortL api_Span.z span_Make_1 a0).length : Int))))], [eR24 x1_r0, eR24 (sortL api_Span.z span_Make_1 a0)]⟩ ?_
          by_cases c4 : x1_16 < ((sortL api_Span.z span_Make_1 a0).length : Int)
          · replace H := sT c4 H
            rw [decide_eq_true c4]
            refine goK hT 2 (K48 1111101001 1) ⟨56, [(5, .own 0 2 0 x1_r0.length), (14, .own 1 2 0 ((sortL api_Span.z span_Make_1 a0).length)), (15, .i ((sortL api_Span.z span_Make_1 a0).length : Int)), (16, .i x1_16)], [eR24 x1_r0, eR24 (sortL api_Span.z span_Make_1 a0)]⟩ ?_
            refine goK hT 4 (K48 11111010011000 0) ⟨56, [(5, .own 0 2 0 x1_r0.length), (14, .own 1 2 0 ((sortL api_Span.z span_Make_1 a0).length)), (15, .i ((sortL api_Span.z span_Make_1 a0).length : Int)), (16, .i x1_16)], [eR24 x1_r0, eR24 (sortL api_Span.z span_Make_1 a0)]⟩ ?_
            obtain ⟨h6, H⟩ := sC H
            have Jj1 : ∀ (y1_34 : Bool), stk (span_Make.j1 a0 x1_16 x1_r0 y1_34) (iter (span_Make.step a0) n) = some r → AK X 48 ((K48 1111101001100101 1)) (Back X [] (.tup [.d (eL24 true r.1), .i r.2])) ⟨56, [(5, .own 0 2 0 x1_r0.length), (7, .ptr 1 0 0 0), (8, .i (IntKind.wrap .i64 ((x1_r0.length : Int) - 1))), (14, .own 2 2 0 ((sortL api_Span.z span_Make_1 a0).length)), (15, .i ((sortL api_Span.z span_Make_1 a0).length : Int)), (16, .i x1_16), (34, .b y1_34)], [eR24 x1_r0, .box 24 (eC24 ((sortL api_Span.z span_Make_1 a0).getD x1_16.toNat api_Span.z)), eR24 (sortL api_Span.z span_Make_1 a0)]⟩ := by
              intro y1_34 H
              by_cases c9 : y1_34 = true
              · replace H := sT c9 H
                rw [c9]
                refine goK hT 2 (K48 111110100110010110 0) ⟨56, [(5, .own 0 2 0 x1_r0.length), (7, .ptr 1 0 0 0), (8, .i (IntKind.wrap .i64 ((x1_r0.length : Int) - 1))), (14, .own 2 2 0 ((sortL api_Span.z span_Make_1 a0).length)), (15, .i ((sortL api_Span.z span_Make_1 a0).length : Int)), (16, .i x1_16)], [eR24 x1_r0, .box 24 (eC24 ((sortL api_Span.z span_Make_1 a0).getD x1_16.toNat api_Span.z)), eR24 (sortL api_Span.z span_Make_1 a0)]⟩ ?_
                obtain ⟨h10, H⟩ := sC H
                refine drawK (hP ▸ mixed) 10 [5, 7, 8, 14, 15, 16] [some (.own 0 2 0 x1_r0.length), some (.i (IntKind.wrap .i64 ((x1_r0.length : Int) - 1))), some (.own 0 2 0 x1_r0.length), some (.i (IntKind.wrap .i64 ((x1_r0.length : Int) - 1))), some (.ptr 0 2 ((IntKind.wrap .i64 ((x1_r0.length : Int) - 1)).toNat) 0), some (.ptr 0 2 ((IntKind.wrap .i64 ((x1_r0.length : Int) - 1)).toNat) 1), some (.i ((x1_r0.getD ((IntKind.wrap .i64 ((x1_r0.length : Int) - 1)).toNat) api_Span.z).Hi)), some (.ptr 1 0 0 1), some (.i (((sortL api_Span.z span_Make_1 a0).getD x1_16.toNat api_Span.z).Hi)), some (.i (iMax ((x1_r0.getD ((IntKind.wrap .i64 ((x1_r0.length : Int) - 1)).toNat) api_Span.z).Hi) (((sortL api_Span.z span_Make_1 a0).getD x1_16.toNat api_Span.z).Hi)))] (opG (opG (opG (opS (opG (opS (opG (opG (opG (opG op0 hT) hT) hT) hT) (fun R rest h => ak_idx0 hT (i := IntKind.wrap .i64 ((x1_r0.length : Int) - 1)) (n := (x1_r0.length : Int)) h10.1 h10.2 (by kernel_rfl) h)) hT) (fun R rest h => ak_ld0 hT (i := (IntKind.wrap .i64 ((x1_r0.length : Int) - 1)).toNat) (n := x1_r0.length) (ltN h10.1 h10.2) (by kernel_rfl) h)) hT) hT) hT) ?_
                refine goK hT 0 (K48 1111101001100101100 10) ⟨56, [(5, .own 0 2 0 x1_r0.length), (14, .own 2 2 0 ((sortL api_Span.z span_Make_1 a0).length)), (15, .i ((sortL api_Span.z span_Make_1 a0).length : Int)), (16, .i x1_16), (35, .own 0 2 0 x1_r0.length), (36, .i (IntKind.wrap .i64 ((x1_r0.length : Int) - 1))), (44, .i (iMax ((x1_r0.getD ((IntKind.wrap .i64 ((x1_r0.length : Int) - 1)).toNat) api_Span.z).Hi) (((sortL api_Span.z span_Make_1 a0).getD x1_16.toNat api_Span.z).Hi)))], [eR24 x1_r0, .box 24 (eC24 ((sortL api_Span.z span_Make_1 a0).getD x1_16.toNat api_Span.z)), eR24 (sortL api_Span.z span_Make_1 a0)]⟩ ?_
                refine ak_idx hT [5, 14, 15, 16, 44, 45] (i := IntKind.wrap .i64 ((x1_r0.length : Int) - 1)) (n := (x1_r0.length : Int)) h10.1 h10.2 (k' := (K48 1111101001100101100 11)) (st' := ⟨56, [(5, .own 0 2 0 x1_r0.length), (14, .own 2 2 0 ((sortL api_Span.z span_Make_1 a0).length)), (15, .i ((sortL api_Span.z span_Make_1 a0).length : Int)), (16, .i x1_16), (44, .i (iMax ((x1_r0.getD ((IntKind.wrap .i64 ((x1_r0.length : Int) - 1)).toNat) api_Span.z).Hi) (((sortL api_Span.z span_Make_1 a0).getD x1_16.toNat api_Span.z).Hi))), (45, .ptr 0 2 ((IntKind.wrap .i64 ((x1_r0.length : Int) - 1)).toNat) 0)], [eR24 x1_r0, .box 24 (eC24 ((sortL api_Span.z span_Make_1 a0).getD x1_16.toNat api_Span.z)), eR24 (sortL api_Span.z span_Make_1 a0)]⟩) (by kernel_rfl) ?_
                refine goK hT 1 (K48 1111101001100101100 12) ⟨56, [(5, .own 0 2 0 x1_r0.length), (14, .own 2 2 0 ((sortL api_Span.z span_Make_1 a0).length)), (15, .i ((sortL api_Span.z span_Make_1 a0).length : Int)), (16, .i x1_16), (44, .i (iMax ((x1_r0.getD ((IntKind.wrap .i64 ((x1_r0.length : Int) - 1)).toNat) api_Span.z).Hi) (((sortL api_Span.z span_Make_1 a0).getD x1_16.toNat api_Span.z).Hi))), (46, .ptr 0 2 ((IntKind.wrap .i64 ((x1_r0.length : Int) - 1)).toNat) 1)], [eR24 x1_r0, .box 24 (eC24 ((sortL api_Span.z span_Make_1 a0).getD x1_16.toNat api_Span.z)), eR24 (sortL api_Span.z span_Make_1 a0)]⟩ ?_
                refine ak_st (id := 0) (kk := 2) (i := ((IntKind.wrap .i64 ((x1_r0.length : Int) - 1)).toNat)) (off := 1) (s := 1) (n := x1_r0.length) (ty := 24) (ds := [.i (iMax ((x1_r0.getD ((IntKind.wrap .i64 ((x1_r0.length : Int) - 1)).toNat) api_Span.z).Hi) (((sortL api_Span.z span_Make_1 a0).getD x1_16.toNat api_Span.z).Hi))]) (g := vec api_Span.e api_Span.z x1_r0) (k' := (K48 1111101001100101100 13)) hT [5, 14, 15, 16] (vec api_Span.e api_Span.z (x1_r0.set ((IntKind.wrap .i64 ((x1_r0.length : Int) - 1)).toNat) (⟨(x1_r0.getD ((IntKind.wrap .i64 ((x1_r0.length : Int) - 1)).toNat) api_Span.z).Lo, iMax ((x1_r0.getD ((IntKind.wrap .i64 ((x1_r0.length : Int) - 1)).toNat) api_Span.z).Hi) (((sortL api_Span.z span_Make_1 a0).getD x1_16.toNat api_Span.z).Hi)⟩ : api_Span))) (by kernel_rfl) (by kernel_rfl) (ltN h10.1 h10.2) ((vec_set (ltN h10.1 h10.2)).trans (by kernel_rfl)) vec_set_ne (st' := ⟨56, [(5, .own 0 2 0 (x1_r0.length)), (14, .own 2 2 0 ((sortL api_Span.z span_Make_1 a0).length)), (15, .i ((sortL api_Span.z span_Make_1 a0).length : Int)), (16, .i x1_16)], [.flat false 2 24 x1_r0.length (vec api_Span.e api_Span.z (x1_r0.set ((IntKind.wrap .i64 ((x1_r0.length : Int) - 1)).toNat) (⟨(x1_r0.getD ((IntKind.wrap .i64 ((x1_r0.length : Int) - 1)).toNat) api_Span.z).Lo, iMax ((x1_r0.getD ((IntKind.wrap .i64 ((x1_r0.length : Int) - 1)).toNat) api_Span.z).Hi) (((sortL api_Span.z span_Make_1 a0).getD x1_16.toNat api_Span.z).Hi)⟩ : api_Span))), .box 24 (eC24 ((sortL api_Span.z span_Make_1 a0).getD x1_16.toNat api_Span.z)), .flat false 2 24 (sortL api_Span.z span_Make_1 a0).length (vec api_Span.e api_Span.z (sortL api_Span.z span_Make_1 a0))]⟩) (by kernel_rfl) ?_
                refine ak_eq (show x1_r0.length = (x1_r0.set ((IntKind.wrap .i64 ((x1_r0.length : Int) - 1)).toNat) (⟨(x1_r0.getD ((IntKind.wrap .i64 ((x1_r0.length : Int) - 1)).toNat) api_Span.z).Lo, iMax ((x1_r0.getD ((IntKind.wrap .i64 ((x1_r0.length : Int) - 1)).toNat) api_Span.z).Hi) (((sortL api_Span.z span_Make_1 a0).getD x1_16.toNat api_Span.z).Hi)⟩ : api_Span)).length from (List.length_set ..).symm) (fun nn => ⟨56, [(5, .own 0 2 0 (nn)), (14, .own 2 2 0 ((sortL api_Span.z span_Make_1 a0).length)), (15, .i ((sortL api_Span.z span_Make_1 a0).length : Int)), (16, .i x1_16)], [.flat false 2 24 nn (vec api_Span.e api_Span.z (x1_r0.set ((IntKind.wrap .i64 ((x1_r0.length : Int) - 1)).toNat) (⟨(x1_r0.getD ((IntKind.wrap .i64 ((x1_r0.length : Int) - 1)).toNat) api_Span.z).Lo, iMax ((x1_r0.getD ((IntKind.wrap .i64 ((x1_r0.length : Int) - 1)).toNat) api_Span.z).Hi) (((sortL api_Span.z span_Make_1 a0).getD x1_16.toNat api_Span.z).Hi)⟩ : api_Span))), .box 24 (eC24 ((sortL api_Span.z span_Make_1 a0).getD x1_16.toNat api_Span.z)), .flat false 2 24 (sortL api_Span.z span_Make_1 a0).length (vec api_Span.e api_Span.z (sortL api_Span.z span_Make_1 a0))]⟩) ?_
                refine goK hT 7 (K48 11111010 0) ⟨56, [(5, .own 0 2 0 ((x1_r0.set ((IntKind.wrap .i64 ((x1_r0.length : Int) - 1)).toNat) (⟨(x1_r0.getD ((IntKind.wrap .i64 ((x1_r0.length : Int) - 1)).toNat) api_Span.z).Lo, iMax ((x1_r0.getD ((IntKind.wrap .i64 ((x1_r0.length : Int) - 1)).toNat) api_Span.z).Hi) (((sortL api_Span.z span_Make_1 a0).getD x1_16.toNat api_Span.z).Hi)⟩ : api_Span)).length)), (14, .own 2 2 0 ((sortL api_Span.z span_Make_1 a0).length)), (15, .i ((sortL api_Span.z span_Make_1 a0).length : Int)), (16, .i (IntKind.wrap .i64 (x1_16 + 1)))], [eR24 (x1_r0.set ((IntKind.wrap .i64 ((x1_r0.length : Int) - 1)).toNat) (⟨(x1_r0.getD ((IntKind.wrap .i64 ((x1_r0.length : Int) - 1)).toNat) api_Span.z).Lo, iMax ((x1_r0.getD ((IntKind.wrap .i64 ((x1_r0.length : Int) - 1)).toNat) api_Span.z).Hi) (((sortL api_Span.z span_Make_1 a0).getD x1_16.toNat api_Span.z).Hi)⟩ : api_Span)), .box 24 (eC24 ((sortL api_Span.z span_Make_1 a0).getD x1_16.toNat api_Span.z)), eR24 (sortL api_Span.z span_Make_1 a0)]⟩ ?_
                refine cutK [0, 2] ⟨56, [(5, .own 0 2 0 (x1_r0.set ((IntKind.wrap .i64 ((x1_r0.length : Int) - 1)).toNat) (⟨(x1_r0.getD ((IntKind.wrap .i64 ((x1_r0.length : Int) - 1)).toNat) api_Span.z).Lo, iMax ((x1_r0.getD ((IntKind.wrap .i64 ((x1_r0.length : Int) - 1)).toNat) api_Span.z).Hi) (((sortL api_Span.z span_Make_1 a0).getD x1_16.toNat api_Span.z).Hi)⟩ : api_Span)).length), (14, .own 1 2 0 ((sortL api_Span.z span_Make_1 a0).length)), (15, .i ((sortL api_Span.z span_Make_1 a0).length : Int)), (16, .i (IntKind.wrap .i64 (x1_16 + 1)))], [eR24 (x1_r0.set ((IntKind.wrap .i64 ((x1_r0.length : Int) - 1)).toNat) (⟨(x1_r0.getD ((IntKind.wrap .i64 ((x1_r0.length : Int) - 1)).toNat) api_Span.z).Lo, iMax ((x1_r0.getD ((IntKind.wrap .i64 ((x1_r0.length : Int) - 1)).toNat) api_Span.z).Hi) (((sortL api_Span.z span_Make_1 a0).getD x1_16.toNat api_Span.z).Hi)⟩ : api_Span)), eR24 (sortL api_Span.z span_Make_1 a0)]⟩ h0 ?_
                exact ih (IntKind.wrap .i64 (x1_16 + 1)) (x1_r0.set ((IntKind.wrap .i64 ((x1_r0.length : Int) - 1)).toNat) (⟨(x1_r0.getD ((IntKind.wrap .i64 ((x1_r0.length : Int) - 1)).toNat) api_Span.z).Lo, iMax ((x1_r0.getD ((IntKind.wrap .i64 ((x1_r0.length : Int) - 1)).toNat) api_Span.z).Hi) (((sortL api_Span.z span_Make_1 a0).getD x1_16.toNat api_Span.z).Hi)⟩ : api_Span)) H
              · replace H := sF c9 H
                rw [boF c9]
                refine goK hT 2 (K48 11111010011001 1) ⟨56, [(5, .own 0 2 0 x1_r0.length), (7, .ptr 1 0 0 0), (14, .own 2 2 0 ((sortL api_Span.z span_Make_1 a0).length)), (15, .i ((sortL api_Span.z span_Make_1 a0).length : Int)), (16, .i x1_16)], [eR24 x1_r0, .box 24 (eC24 ((sortL api_Span.z span_Make_1 a0).getD x1_16.toNat api_Span.z)), eR24 (sortL api_Span.z span_Make_1 a0)]⟩ ?_
                refine goK hT 4 (K48 111110100110011 3) ⟨56, [(14, .own 2 2 0 ((sortL api_Span.z span_Make_1 a0).length)), (15, .i ((sortL api_Span.z span_Make_1 a0).length : Int)), (16, .i x1_16), (47, .own 0 2 0 x1_r0.length), (49, .own 3 2 0 1)], [eR24 x1_r0, .box 24 (eC24 ((sortL api_Span.z span_Make_1 a0).getD x1_16.toNat api_Span.z)), eR24 (sortL api_Span.z span_Make_1 a0), .flat false 2 24 1 (fun j => [api_Span.e ((sortL api_Span.z span_Make_1 a0).getD x1_16.toNat api_Span.z)].getD j [])]⟩ ?_
                obtain ⟨h11, H⟩ := sC H
                refine ak_append1 (id := 0) (kk := 2) (by' := 16) (t := 48) (e := 24) (z := [.int .i64 0, .int .i64 0]) (dst := some 50) (id2 := 3) (e2 := 24) (fz := false) (k' := (K48 111110100110011 4)) hT api_Span.e api_Span.z x1_r0 ((sortL api_Span.z span_Make_1 a0).getD x1_16.toNat api_Span.z) [14, 15, 16, 50] (by kernel_rfl) (by kernel_rfl) (by kernel_rfl) (by kernel_rfl) (by kernel_rfl) (by kernel_rfl) (by kernel_rfl) h11 (by omega) (st' := ⟨56, [(14, .own 2 2 0 ((sortL api_Span.z span_Make_1 a0).length)), (15, .i ((sortL api_Span.z span_Make_1 a0).length : Int)), (16, .i x1_16), (50, .own 4 2 0 ((x1_r0 ++ [((sortL api_Span.z span_Make_1 a0).getD x1_16.toNat api_Span.z)]).length))], [.gone, .box 24 (eC24 ((sortL api_Span.z span_Make_1 a0).getD x1_16.toNat api_Span.z)), eR24 (sortL api_Span.z span_Make_1 a0), .flat false 2 24 1 (fun j => [api_Span.e ((sortL api_Span.z span_Make_1 a0).getD x1_16.toNat api_Span.z)].getD j []), eR24 (x1_r0 ++ [((sortL api_Span.z span_Make_1 a0).getD x1_16.toNat api_Span.z)])]⟩) (by kernel_rfl) ?_
                refine goK hT 8 (K48 11111010 0) ⟨56, [(5, .own 4 2 0 ((x1_r0 ++ [((sortL api_Span.z span_Make_1 a0).getD x1_16.toNat api_Span.z)]).length)), (14, .own 2 2 0 ((sortL api_Span.z span_Make_1 a0).length)), (15, .i ((sortL api_Span.z span_Make_1 a0).length : Int)), (16, .i (IntKind.wrap .i64 (x1_16 + 1)))], [.gone, .box 24 (eC24 ((sortL api_Span.z span_Make_1 a0).getD x1_16.toNat api_Span.z)), eR24 (sortL api_Span.z span_Make_1 a0), .flat false 2 24 1 (fun j => [api_Span.e ((sortL api_Span.z span_Make_1 a0).getD x1_16.toNat api_Span.z)].getD j []), eR24 (x1_r0 ++ [((sortL api_Span.z span_Make_1 a0).getD x1_16.toNat api_Span.z)])]⟩ ?_
                refine cutK [4, 2] ⟨56, [(5, .own 0 2 0 (x1_r0 ++ [((sortL api_Span.z span_Make_1 a0).getD x1_16.toNat api_Span.z)]).length), (14, .own 1 2 0 ((sortL api_Span.z span_Make_1 a0).length)), (15, .i ((sortL api_Span.z span_Make_1 a0).length : Int)), (16, .i (IntKind.wrap .i64 (x1_16 + 1)))], [eR24 (x1_r0 ++ [((sortL api_Span.z span_Make_1 a0).getD x1_16.toNat api_Span.z)]), eR24 (sortL api_Span.z span_Make_1 a0)]⟩ h0 ?_
                exact ih (IntKind.wrap .i64 (x1_16 + 1)) (x1_r0 ++ [((sortL api_Span.z span_Make_1 a0).getD x1_16.toNat api_Span.z)]) H
            refine ak_idx hT [5, 14, 15, 16, 18] (i := x1_16) (n := ((sortL api_Span.z span_Make_1 a0).length : Int)) h6.1 h6.2 (k' := (K48 11111010011000 1)) (st' := ⟨56, [(5, .own 0 2 0 x1_r0.length), (14, .own 1 2 0 ((sortL api_Span.z span_Make_1 a0).length)), (15, .i ((sortL api_Span.z span_Make_1 a0).length : Int)), (16, .i x1_16), (18, .ptr 1 2 x1_16.toNat 0)], [eR24 x1_r0, eR24 (sortL api_Span.z span_Make_1 a0)]⟩) (by kernel_rfl) ?_
            refine ak_ld hT [5, 14, 15, 16, 19] (i := x1_16.toNat) (n := (sortL api_Span.z span_Make_1 a0).length) (ltN h6.1 h6.2) (k' := (K48 11111010011000 2)) (st' := ⟨56, [(5, .own 0 2 0 x1_r0.length), (14, .own 1 2 0 ((sortL api_Span.z span_Make_1 a0).length)), (15, .i ((sortL api_Span.z span_Make_1 a0).length : Int)), (16, .i x1_16), (19, .d (eG24 ((sortL api_Span.z span_Make_1 a0).getD x1_16.toNat api_Span.z)))], [eR24 x1_r0, eR24 (sortL api_Span.z span_Make_1 a0)]⟩) (by kernel_rfl) ?_
            refine goK hT 12 (K48 1111101001100101 0) ⟨56, [(5, .own 0 2 0 x1_r0.length), (7, .ptr 2 0 0 0), (8, .i (IntKind.wrap .i64 ((x1_r0.length : Int) - 1))), (14, .own 1 2 0 ((sortL api_Span.z span_Make_1 a0).length)), (15, .i ((sortL api_Span.z span_Make_1 a0).length : Int)), (16, .i x1_16)], [eR24 x1_r0, eR24 (sortL api_Span.z span_Make_1 a0), .box 24 (eC24 ((sortL api_Span.z span_Make_1 a0).getD x1_16.toNat api_Span.z))]⟩ ?_
            by_cases c7 : (IntKind.wrap .i64 ((x1_r0.length : Int) - 1)) ≥ 0
            · replace H := sT c7 H
              obtain ⟨h8, H⟩ := sC H
              refine drawK (hP ▸ mixed) 12 [5, 7, 8, 14, 15, 16] [some (.i (IntKind.wrap .i64 ((x1_r0.length : Int) - 1))), some (.b true), some (.b true), some (.ptr 2 0 0 0), some (.i (((sortL api_Span.z span_Make_1 a0).getD x1_16.toNat api_Span.z).Lo)), some (.own 0 2 0 x1_r0.length), some (.i (IntKind.wrap .i64 ((x1_r0.length : Int) - 1))), some (.ptr 0 2 ((IntKind.wrap .i64 ((x1_r0.length : Int) - 1)).toNat) 0), some (.ptr 0 2 ((IntKind.wrap .i64 ((x1_r0.length : Int) - 1)).toNat) 1), some (.i ((x1_r0.getD ((IntKind.wrap .i64 ((x1_r0.length : Int) - 1)).toNat) api_Span.z).Hi)), some (.b (decide ((((sortL api_Span.z span_Make_1 a0).getD x1_16.toNat api_Span.z).Lo) ≤ ((x1_r0.getD ((IntKind.wrap .i64 ((x1_r0.length : Int) - 1)).toNat) api_Span.z).Hi)))), some (.b (decide ((((sortL api_Span.z span_Make_1 a0).getD x1_16.toNat api_Span.z).Lo) ≤ ((x1_r0.getD ((IntKind.wrap .i64 ((x1_r0.length : Int) - 1)).toNat) api_Span.z).Hi))))] (opG (opG (opS (opG (opS (opG (opG (opG (opG (opG (opV (opG op0 hT) hT 24 (.b (decide ((IntKind.wrap .i64 ((x1_r0.length : Int) - 1)) ≥ 0))) (.b true) (by rw [decide_eq_true c7])) hT) hT) hT) hT) hT) (fun R rest h => ak_idx0 hT (i := IntKind.wrap .i64 ((x1_r0.length : Int) - 1)) (n := (x1_r0.length : Int)) h8.1 h8.2 (by kernel_rfl) h)) hT) (fun R rest h => ak_ld0 hT (i := (IntKind.wrap .i64 ((x1_r0.length : Int) - 1)).toNat) (n := x1_r0.length) (ltN h8.1 h8.2) (by kernel_rfl) h)) hT) hT) ?_
              refine goK hT 1 (K48 1111101001100101 1) ⟨56, [(5, .own 0 2 0 x1_r0.length), (7, .ptr 2 0 0 0), (8, .i (IntKind.wrap .i64 ((x1_r0.length : Int) - 1))), (14, .own 1 2 0 ((sortL api_Span.z span_Make_1 a0).length)), (15, .i ((sortL api_Span.z span_Make_1 a0).length : Int)), (16, .i x1_16), (34, .b (decide ((((sortL api_Span.z span_Make_1 a0).getD x1_16.toNat api_Span.z).Lo) ≤ ((x1_r0.getD ((IntKind.wrap .i64 ((x1_r0.length : Int) - 1)).toNat) api_Span.z).Hi))))], [eR24 x1_r0, eR24 (sortL api_Span.z span_Make_1 a0), .box 24 (eC24 ((sortL api_Span.z span_Make_1 a0).getD x1_16.toNat api_Span.z))]⟩ ?_
              refine cutK [0, 2, 1] ⟨56, [(5, .own 0 2 0 x1_r0.length), (7, .ptr 1 0 0 0), (8, .i (IntKind.wrap .i64 ((x1_r0.length : Int) - 1))), (14, .own 2 2 0 ((sortL api_Span.z span_Make_1 a0).length)), (15, .i ((sortL api_Span.z span_Make_1 a0).length : Int)), (16, .i x1_16), (34, .b (decide ((((sortL api_Span.z span_Make_1 a0).getD x1_16.toNat api_Span.z).Lo) ≤ ((x1_r0.getD ((IntKind.wrap .i64 ((x1_r0.length : Int) - 1)).toNat) api_Span.z).Hi))))], [eR24 x1_r0, .box 24 (eC24 ((sortL api_Span.z span_Make_1 a0).getD x1_16.toNat api_Span.z)), eR24 (sortL api_Span.z span_Make_1 a0)]⟩ h0 ?_
              exact Jj1 (decide ((((sortL api_Span.z span_Make_1 a0).getD x1_16.toNat api_Span.z).Lo) ≤ ((x1_r0.getD ((IntKind.wrap .i64 ((x1_r0.length : Int) - 1)).toNat) api_Span.z).Hi))) H
            · replace H := sF c7 H
              refine drawK (hP ▸ mixed) 12 [5, 7, 8, 14, 15, 16] [some (.i (IntKind.wrap .i64 ((x1_r0.length : Int) - 1))), some (.b false), some (.b false), some (.tup []), some (.tup []), some (.tup []), some (.tup []), some (.tup []), some (.tup []), some (.tup []), some (.tup []), some (.b false)] (opG (opG (opG (opG (opG (opG (opG (opG (opG (opG (opV (opG op0 hT) hT 24 (.b (decide ((IntKind.wrap .i64 ((x1_r0.length : Int) - 1)) ≥ 0))) (.b false) (by rw [decide_eq_false c7])) hT) hT) hT) hT) hT) hT) hT) hT) hT) hT) ?_
              refine goK hT 1 (K48 1111101001100101 1) ⟨56, [(5, .own 0 2 0 x1_r0.length), (7, .ptr 2 0 0 0), (8, .i (IntKind.wrap .i64 ((x1_r0.length : Int) - 1))), (14, .own 1 2 0 ((sortL api_Span.z span_Make_1 a0).length)), (15, .i ((sortL api_Span.z span_Make_1 a0).length : Int)), (16, .i x1_16), (34, .b false)], [eR24 x1_r0, eR24 (sortL api_Span.z span_Make_1 a0), .box 24 (eC24 ((sortL api_Span.z span_Make_1 a0).getD x1_16.toNat api_Span.z))]⟩ ?_
              refine cutK [0, 2, 1] ⟨56, [(5, .own 0 2 0 x1_r0.length), (7, .ptr 1 0 0 0), (8, .i (IntKind.wrap .i64 ((x1_r0.length : Int) - 1))), (14, .own 2 2 0 ((sortL api_Span.z span_Make_1 a0).length)), (15, .i ((sortL api_Span.z span_Make_1 a0).length : Int)), (16, .i x1_16), (34, .b false)], [eR24 x1_r0, .box 24 (eC24 ((sortL api_Span.z span_Make_1 a0).getD x1_16.toNat api_Span.z)), eR24 (sortL api_Span.z span_Make_1 a0)]⟩ h0 ?_
              exact Jj1 false H
          · replace H := sF c4 H
            rw [decide_eq_false c4]
            refine goK hT 5 (K48 1111110 1) ⟨56, [(52, .own 0 2 0 x1_r0.length)], [eR24 x1_r0, eR24 (sortL api_Span.z span_Make_1 a0)]⟩ ?_
            refine ak_freeze 0 (kk := 2) (n := x1_r0.length) (ty := 24) (g := vec api_Span.e api_Span.z x1_r0) (by kernel_rfl) (st' := ⟨56, [(52, .own 0 2 0 x1_r0.length)], [eF24 x1_r0, eR24 (sortL api_Span.z span_Make_1 a0)]⟩) (by kernel_rfl) ?_
            refine ak_callP (avs := [.own 0 2 0 x1_r0.length]) (dst := some 53) (k' := (K48 1111110 2)) [53] [] hP enters_72 (span_limited.says x1_r0) (by kernel_rfl) (hands_none _) (.cons (.lend (ty := 24) (by kernel_rfl) rfl) .nil) (st' := ⟨56, [(53, .tup [.d (eL24 true ((span_limited x1_r0).1)), .i ((span_limited x1_r0).2)])], [eF24 x1_r0, eR24 (sortL api_Span.z span_Make_1 a0)]⟩) (by kernel_rfl) ?_
            obtain ⟨v2, h5, H⟩ := sdC H
            rw [← h5]
            refine goK hT 5 (K48 111111 1) ⟨56, [(2, .d (eL24 true v2.1)), (3, .i v2.2)], [eF24 x1_r0, eR24 (sortL api_Span.z span_Make_1 a0)]⟩ ?_
            obtain rfl := retC H
            exact ak_ret hf hX (av := .tup [.d (eL24 true v2.1), .i v2.2]) (by kernel_rfl) [] (sel_of_eq (by kernel_rfl)) (by decide) (by rw [h0]; rfl) (by kernel_rfl) (fun _ h => all_nil h) (.tup (.cons (.d (.sl fun _ _ => api_Span.nl _)) (.cons (.d (.v _)) .nil)))
    refine cutK [2, 1] ⟨56, [(5, .own 0 2 0 ([] : List api_Span).length), (14, .own 1 2 0 ((sortL api_Span.z span_Make_1 a0).length)), (15, .i ((sortL api_Span.z span_Make_1 a0).length : Int)), (16, .i 0)], [eR24 ([] : List api_Span), eR24 (sortL api_Span.z span_Make_1 a0)]⟩ h0 ?_
    obtain ⟨n, H⟩ := loopC H
    exact (L n) 0 ([] : List api_Span) H


theorem mut_Touch.says (a0 : api_Mut) {r : List api_Span} (H : mut_Touch a0 = some r) : Says Try.prog 25 [] [.d (eG26 a0)] [] (.d (eL24 true r)) := by
  refine says_of Try.func25 rfl (nt := 40) rfl (Nat.le_of_ble_eq_true rfl) fun X hP h0 hX => ?_
  have hT : TabOk X.P T := hP ▸ tok
  have hf : X.P.funcs[25]? = some Try.f25 := hP ▸ Try.func25
  refine goK hT 9 (K25 1100 1) ⟨40, [(1, .ptr 0 0 0 0), (8, .d (eG26 a0))], [.box 26 (eC26 a0)]⟩ ?_
  obtain ⟨v1, h1, H⟩ := ibC H
  refine ak_callP (avs := [.d (eG26 a0)]) (dst := some 9) (k' := (K25 1100 2)) [1, 9] [] hP enters_18 (mut_Check.says a0 h1) (by kernel_rfl) (hands_none _) (.cons (pass_d _) .nil) (st' := ⟨40, [(1, .ptr 0 0 0 0), (9, .b v1)], [.box 26 (eC26 a0)]⟩) (by kernel_rfl) ?_
  refine goK hT 2 (K25 110 1) ⟨40, [(1, .ptr 0 0 0 0), (10, .b (!v1))], [.box 26 (eC26 a0)]⟩ ?_
  by_cases c2 : v1 = true
  · replace H := iT c2 H
    rw [c2]
    refine goK hT 2 (K25 11 1) ⟨40, [(1, .ptr 0 0 0 0)], [.box 26 (eC26 a0)]⟩ ?_
    refine goK hT 7 (K25 1110 1) ⟨40, [(1, .ptr 0 0 0 0), (13, .b (a0.Kind == 2))], [.box 26 (eC26 a0)]⟩ ?_
    by_cases c3 : a0.Kind = 2
    · replace H := iT c3 H
      rw [eqT c3]
      refine goK hT 8 (K25 111010 1) ⟨40, [(2, .own 1 2 0 1)], [.box 26 (eC26 a0), .flat false 2 24 1 (fun j => [api_Span.e a0.Over].getD j [])]⟩ ?_
      refine ak_row 1 (kk := 2) (fz := false) (ty := 24) (n := ([a0.Over] : List api_Span).length) (vec api_Span.e api_Span.z ([a0.Over] : List api_Span)) (by kernel_rfl) vec_lit (st' := ⟨40, [(2, .own 1 2 0 (([a0.Over] : List api_Span).length))], [.box 26 (eC26 a0), eR24 ([a0.Over] : List api_Span)]⟩) (by kernel_rfl) ?_
      refine ak_freeze 1 (kk := 2) (n := ([a0.Over] : List api_Span).length) (ty := 24) (g := vec api_Span.e api_Span.z ([a0.Over] : List api_Span)) (by kernel_rfl) (st' := ⟨40, [(2, .own 1 2 0 (([a0.Over] : List api_Span).length))], [.box 26 (eC26 a0), eF24 ([a0.Over] : List api_Span)]⟩) (by kernel_rfl) ?_
      refine ak_sealS (av := .own 1 2 0 1) (y := eL24 true ([a0.Over] : List api_Span)) [2] 2 (st' := ⟨40, [(2, .d (eL24 true ([a0.Over] : List api_Span)))], [.box 26 (eC26 a0), eF24 ([a0.Over] : List api_Span)]⟩) (by kernel_rfl) (.own (ty := 24) (k := 2) (by kernel_rfl)) (by kernel_rfl) ?_
      obtain rfl := retC H
      exact ak_ret hf hX (av := .d (eL24 true ([a0.Over] : List api_Span))) (by kernel_rfl) [] (sel_of_eq (by kernel_rfl)) (by decide) (by rw [h0]; rfl) (by kernel_rfl) (fun _ h => all_nil h) (.d (.sl fun _ _ => api_Span.nl _))
    · replace H := iF c3 H
      rw [eqF c3]
      refine goK hT 2 (K25 111 1) ⟨40, [(1, .ptr 0 0 0 0)], [.box 26 (eC26 a0)]⟩ ?_
      refine goK hT 14 (K25 11111010 0) ⟨40, [(3, .ns), (18, .d (eL67 true a0.Pairs)), (19, .i (a0.Pairs.length : Int)), (20, .i 0)], [.box 26 (eC26 a0)]⟩ ?_
      refine ak_nilS [3, 18, 19, 20] 3 2 24 (vec api_Span.e api_Span.z []) (st' := ⟨40, [(3, .own 1 2 0 0), (18, .d (eL67 true a0.Pairs)), (19, .i (a0.Pairs.length : Int)), (20, .i 0)], [.box 26 (eC26 a0), eR24 ([] : List api_Span)]⟩) (by kernel_rfl) (by kernel_rfl) ?_
      have L : ∀ n, (∀ (x1_20 : Int) (x1_r0 : List api_Span), iter (mut_Touch.step a0) n (.l1 x1_20 x1_r0) = some r → AK X 25 ((K25 11111010 0)) (Back X [] (.d (eL24 true r))) ⟨40, [(3, .own 0 2 0 x1_r0.length), (18, .d (eL67 true a0.Pairs)), (19, .i (a0.Pairs.length : Int)), (20, .i x1_20)], [eR24 x1_r0]⟩) := by
        intro n
        induction n with
        | zero => exact fun _ _ H => iter0 H
        | succ n ih =>
          · intro x1_20 x1_r0 H
            refine goK hT 5 (K25 1111101001 0) ⟨40, [(3, .own 0 2 0 x1_r0.length), (18, .d (eL67 true a0.Pairs)), (19, .i (a0.Pairs.length : Int)), (20, .i x1_20), (21, .b (decide (x1_20 < (a0.Pairs.length : Int))))], [eR24 x1_r0]⟩ ?_
            by_cases c4 : x1_20 < (a0.Pairs.length : Int)
            · replace H := sT c4 H
              rw [decide_eq_true c4]
              refine goK hT 2 (K25 1111101001 1) ⟨40, [(3, .own 0 2 0 x1_r0.length), (18, .d (eL67 true a0.Pairs)), (19, .i (a0.Pairs.length : Int)), (20, .i x1_20)], [eR24 x1_r0]⟩ ?_
              refine goK hT 4 (K25 11111010011000 0) ⟨40, [(3, .own 0 2 0 x1_r0.length), (18, .d (eL67 true a0.Pairs)), (19, .i (a0.Pairs.length : Int)), (20, .i x1_20)], [eR24 x1_r0]⟩ ?_
              obtain ⟨h6, H⟩ := sC H
              refine ak_idx hT [3, 18, 19, 20, 22] (i := x1_20) (n := (a0.Pairs.length : Int)) h6.1 h6.2 (k' := (K25 11111010011000 1)) (st' := ⟨40, [(3, .own 0 2 0 x1_r0.length), (18, .d (eL67 true a0.Pairs)), (19, .i (a0.Pairs.length : Int)), (20, .i x1_20), (22, .d (eP67 true a0.Pairs x1_20.toNat 0))], [eR24 x1_r0]⟩) (by kernel_rfl) ?_
              refine goK hT 13 (K25 11111010011001 8) ⟨40, [(18, .d (eL67 true a0.Pairs)), (19, .i (a0.Pairs.length : Int)), (20, .i x1_20), (24, .own 0 2 0 x1_r0.length), (31, .own 2 2 0 1)], [eR24 x1_r0, .box 67 (eC67 (a0.Pairs.getD x1_20.toNat api_Pair.z)), .flat false 2 24 1 (fun j => [[.i ((a0.Pairs.getD x1_20.toNat api_Pair.z).Key), .i (IntKind.wrap .i64 (((a0.Pairs.getD x1_20.toNat api_Pair.z).Key) + 1))]].getD j [])]⟩ ?_
              obtain ⟨h7, H⟩ := sC H
              refine ak_append1 (id := 0) (kk := 2) (by' := 16) (t := 48) (e := 24) (z := [.int .i64 0, .int .i64 0]) (dst := some 32) (id2 := 2) (e2 := 24) (fz := false) (k' := (K25 11111010011001 9)) hT api_Span.e api_Span.z x1_r0 (⟨(a0.Pairs.getD x1_20.toNat api_Pair.z).Key, IntKind.wrap .i64 (((a0.Pairs.getD x1_20.toNat api_Pair.z).Key) + 1)⟩ : api_Span) [18, 19, 20, 32] (by kernel_rfl) (by kernel_rfl) (by kernel_rfl) (by kernel_rfl) (by kernel_rfl) (by kernel_rfl) (by kernel_rfl) h7 (by omega) (st' := ⟨40, [(18, .d (eL67 true a0.Pairs)), (19, .i (a0.Pairs.length : Int)), (20, .i x1_20), (32, .own 3 2 0 ((x1_r0 ++ [(⟨(a0.Pairs.getD x1_20.toNat api_Pair.z).Key, IntKind.wrap .i64 (((a0.Pairs.getD x1_20.toNat api_Pair.z).Key) + 1)⟩ : api_Span)]).length))], [.gone, .box 67 (eC67 (a0.Pairs.getD x1_20.toNat api_Pair.z)), .flat false 2 24 1 (fun j => [[.i ((a0.Pairs.getD x1_20.toNat api_Pair.z).Key), .i (IntKind.wrap .i64 (((a0.Pairs.getD x1_20.toNat api_Pair.z).Key) + 1))]].getD j []), eR24 (x1_r0 ++ [(⟨(a0.Pairs.getD x1_20.toNat api_Pair.z).Key, IntKind.wrap .i64 (((a0.Pairs.getD x1_20.toNat api_Pair.z).Key) + 1)⟩ : api_Span)])]⟩) (by kernel_rfl) ?_
              refine goK hT 8 (K25 11111010 0) ⟨40, [(3, .own 3 2 0 ((x1_r0 ++ [(⟨(a0.Pairs.getD x1_20.toNat api_Pair.z).Key, IntKind.wrap .i64 (((a0.Pairs.getD x1_20.toNat api_Pair.z).Key) + 1)⟩ : api_Span)]).length)), (18, .d (eL67 true a0.Pairs)), (19, .i (a0.Pairs.length : Int)), (20, .i (IntKind.wrap .i64 (x1_20 + 1)))], [.gone, .box 67 (eC67 (a0.Pairs.getD x1_20.toNat api_Pair.z)), .flat false 2 24 1 (fun j => [[.i ((a0.Pairs.getD x1_20.toNat api_Pair.z).Key), .i (IntKind.wrap .i64 (((a0.Pairs.getD x1_20.toNat api_Pair.z).Key) + 1))]].getD j []), eR24 (x1_r0 ++ [(⟨(a0.Pairs.getD x1_20.toNat api_Pair.z).Key, IntKind.wrap .i64 (((a0.Pairs.getD x1_20.toNat api_Pair.z).Key) + 1)⟩ : api_Span)])]⟩ ?_
              refine cutK [3] ⟨40, [(3, .own 0 2 0 (x1_r0 ++ [(⟨(a0.Pairs.getD x1_20.toNat api_Pair.z).Key, IntKind.wrap .i64 (((a0.Pairs.getD x1_20.toNat api_Pair.z).Key) + 1)⟩ : api_Span)]).length), (18, .d (eL67 true a0.Pairs)), (19, .i (a0.Pairs.length : Int)), (20, .i (IntKind.wrap .i64 (x1_20 + 1)))], [eR24 (x1_r0 ++ [(⟨(a0.Pairs.getD x1_20.toNat api_Pair.z).Key, IntKind.wrap .i64 (((a0.Pairs.getD x1_20.toNat api_Pair.z).Key) + 1)⟩ : api_Span)])]⟩ h0 ?_
              exact ih (IntKind.wrap .i64 (x1_20 + 1)) (x1_r0 ++ [(⟨(a0.Pairs.getD x1_20.toNat api_Pair.z).Key, IntKind.wrap .i64 (((a0.Pairs.getD x1_20.toNat api_Pair.z).Key) + 1)⟩ : api_Span)]) H
            · replace H := sF c4 H
              rw [decide_eq_false c4]
              refine goK hT 5 (K25 1111110 1) ⟨40, [(35, .own 0 2 0 x1_r0.length)], [eR24 x1_r0]⟩ ?_
              refine ak_freeze 0 (kk := 2) (n := x1_r0.length) (ty := 24) (g := vec api_Span.e api_Span.z x1_r0) (by kernel_rfl) (st' := ⟨40, [(35, .own 0 2 0 x1_r0.length)], [eF24 x1_r0]⟩) (by kernel_rfl) ?_
              obtain ⟨v2, h5, H⟩ := sbC H
              refine ak_callP (avs := [.own 0 2 0 x1_r0.length]) (dst := some 36) (k' := (K25 1111110 2)) [36] [] hP enters_48 (span_Make.says x1_r0 h5) (by kernel_rfl) (hands_none _) (.cons (.lend (ty := 24) (by kernel_rfl) rfl) .nil) (st' := ⟨40, [(36, .tup [.d (eL24 true v2.1), .i v2.2])], [eF24 x1_r0]⟩) (by kernel_rfl) ?_
              refine goK hT 11 (K25 1111111 1) ⟨40, [(2, .d (eL24 true v2.1))], [eF24 x1_r0]⟩ ?_
              obtain rfl := retC H
              exact ak_ret hf hX (av := .d (eL24 true v2.1)) (by kernel_rfl) [] (sel_of_eq (by kernel_rfl)) (by decide) (by rw [h0]; rfl) (by kernel_rfl) (fun _ h => all_nil h) (.d (.sl fun _ _ => api_Span.nl _))
      refine cutK [1] ⟨40, [(3, .own 0 2 0 ([] : List api_Span).length), (18, .d (eL67 true a0.Pairs)), (19, .i (a0.Pairs.length : Int)), (20, .i 0)], [eR24 ([] : List api_Span)]⟩ h0 ?_
      obtain ⟨n, H⟩ := loopC H
      exact (L n) 0 ([] : List api_Span) H
  · replace H := iF c2 H
    rw [boF c2]
    refine goK hT 5 (K25 11010 1) ⟨40, [(2, .ns)], [.box 26 (eC26 a0)]⟩ ?_
    refine ak_sealS (av := .d (.v (.slice none 0 0))) (y := eL24 true ([] : List api_Span)) [2] 2 (st' := ⟨40, [(2, .d (eL24 true ([] : List api_Span)))], [.box 26 (eC26 a0)]⟩) (by kernel_rfl) (.nil _) (by kernel_rfl) ?_
    obtain rfl := retC H
    exact ak_ret hf hX (av := .d (eL24 true ([] : List api_Span))) (by kernel_rfl) [] (sel_of_eq (by kernel_rfl)) (by decide) (by rw [h0]; rfl) (by kernel_rfl) (fun _ h => all_nil h) (.d (.sl fun _ _ => api_Span.nl _))


theorem vint_Num.says (a0 : Int) {r : ByteArray} (H : vint_Num a0 = some r) : Says Try.prog 36 [] [.i a0] [] (.s r) := by
  refine says_of Try.func36 rfl (nt := 23) rfl (Nat.le_of_ble_eq_true rfl) fun X hP h0 hX => ?_
  have hT : TabOk X.P T := hP ▸ tok
  have hf : X.P.funcs[36]? = some Try.f36 := hP ▸ Try.func36
  refine goK hT 10 (K36 110 1) ⟨23, [(0, .i a0), (5, .b (decide (a0 < 0)))], []⟩ ?_
  by_cases c1 : a0 < 0
  · replace H := iT c1 H
    rw [decide_eq_true c1]
    refine goK hT 5 (K36 11010 1) ⟨23, [(2, .s (⟨#[]⟩ : ByteArray))], []⟩ ?_
    obtain rfl := retC H
    exact ak_ret hf hX (av := .s (⟨#[]⟩ : ByteArray)) (by kernel_rfl) [] (sel_of_eq (by kernel_rfl)) (by decide) (by rw [h0]; rfl) (by kernel_rfl) (fun _ h => all_nil h) (.d (.v _))
  · replace H := iF c1 H
    rw [decide_eq_false c1]
    refine goK hT 2 (K36 11 1) ⟨23, [(0, .i a0)], []⟩ ?_
    refine goK hT 7 (K36 111100 0) ⟨23, [(0, .i a0), (3, .ns)], []⟩ ?_
    refine ak_nilS [0, 3] 3 1 5 (vec (eI .u8) 0 []) (st' := ⟨23, [(0, .i a0), (3, .own 0 1 0 0)], [eR5 ([] : List Int)]⟩) (by kernel_rfl) (by kernel_rfl) ?_
    have L : ∀ n, (∀ (x1_0 : Int) (x1_r0 : List Int), iter (vint_Num.step) n (.l1 x1_0 x1_r0) = some r → AK X 36 ((K36 111100 0)) (Back X [] (.s r)) ⟨23, [(0, .i x1_0), (3, .own 0 1 0 x1_r0.length)], [eR5 x1_r0]⟩) := by
      intro n
      induction n with
      | zero => exact fun _ _ H => iter0 H
      | succ n ih =>
        · intro x1_0 x1_r0 H
          refine goK hT 6 (K36 11110000 1) ⟨23, [(0, .i x1_0), (3, .own 0 1 0 x1_r0.length), (7, .b (decide (x1_0 ≥ 128)))], [eR5 x1_r0]⟩ ?_
          by_cases c2 : x1_0 ≥ 128
          · replace H := sT c2 H
            rw [decide_eq_true c2]
            refine goK hT 2 (K36 1111000 1) ⟨23, [(0, .i x1_0), (3, .own 0 1 0 x1_r0.length)], [eR5 x1_r0]⟩ ?_
            refine goK hT 9 (K36 1111000100 6) ⟨23, [(0, .i x1_0), (8, .own 0 1 0 x1_r0.length), (13, .own 1 1 0 1)], [eR5 x1_r0, .flat false 1 5 1 (fun j => [[.n .u8 (bOr .u8 (IntKind.wrap .u8 (bAnd .i64 x1_0 127)) 128)]].getD j [])]⟩ ?_
            obtain ⟨h4, H⟩ := sC H
            refine ak_append1 (id := 0) (kk := 1) (by' := 1) (t := 69) (e := 5) (z := [.int .u8 0]) (dst := some 14) (id2 := 1) (e2 := 5) (fz := false) (k' := (K36 1111000100 7)) hT (eI .u8) 0 x1_r0 (bOr .u8 (IntKind.wrap .u8 (bAnd .i64 x1_0 127)) 128) [0, 14] (by kernel_rfl) (by kernel_rfl) (by kernel_rfl) (by kernel_rfl) (by kernel_rfl) (by kernel_rfl) (by kernel_rfl) h4 (by omega) (st' := ⟨23, [(0, .i x1_0), (14, .own 2 1 0 ((x1_r0 ++ [bOr .u8 (IntKind.wrap .u8 (bAnd .i64 x1_0 127)) 128]).length))], [.gone, .flat false 1 5 1 (fun j => [[.n .u8 (bOr .u8 (IntKind.wrap .u8 (bAnd .i64 x1_0 127)) 128)]].getD j []), eR5 (x1_r0 ++ [bOr .u8 (IntKind.wrap .u8 (bAnd .i64 x1_0 127)) 128])]⟩) (by kernel_rfl) ?_
            refine goK hT 9 (K36 111100 0) ⟨23, [(0, .i (Int.fdiv x1_0 128)), (3, .own 2 1 0 ((x1_r0 ++ [bOr .u8 (IntKind.wrap .u8 (bAnd .i64 x1_0 127)) 128]).length))], [.gone, .flat false 1 5 1 (fun j => [[.n .u8 (bOr .u8 (IntKind.wrap .u8 (bAnd .i64 x1_0 127)) 128)]].getD j []), eR5 (x1_r0 ++ [bOr .u8 (IntKind.wrap .u8 (bAnd .i64 x1_0 127)) 128])]⟩ ?_
            refine cutK [2] ⟨23, [(0, .i (Int.fdiv x1_0 128)), (3, .own 0 1 0 (x1_r0 ++ [bOr .u8 (IntKind.wrap .u8 (bAnd .i64 x1_0 127)) 128]).length)], [eR5 (x1_r0 ++ [bOr .u8 (IntKind.wrap .u8 (bAnd .i64 x1_0 127)) 128])]⟩ h0 ?_
            exact ih (Int.fdiv x1_0 128) (x1_r0 ++ [bOr .u8 (IntKind.wrap .u8 (bAnd .i64 x1_0 127)) 128]) H
          · replace H := sF c2 H
            rw [decide_eq_false c2]
            refine goK hT 8 (K36 111110 4) ⟨23, [(17, .own 0 1 0 x1_r0.length), (20, .own 1 1 0 1)], [eR5 x1_r0, .flat false 1 5 1 (fun j => [[.n .u8 (IntKind.wrap .u8 x1_0)]].getD j [])]⟩ ?_
            obtain ⟨h3, H⟩ := sC H
            refine ak_append1 (id := 0) (kk := 1) (by' := 1) (t := 69) (e := 5) (z := [.int .u8 0]) (dst := some 21) (id2 := 1) (e2 := 5) (fz := false) (k' := (K36 111110 5)) hT (eI .u8) 0 x1_r0 (IntKind.wrap .u8 x1_0) [21] (by kernel_rfl) (by kernel_rfl) (by kernel_rfl) (by kernel_rfl) (by kernel_rfl) (by kernel_rfl) (by kernel_rfl) h3 (by omega) (st' := ⟨23, [(21, .own 2 1 0 ((x1_r0 ++ [IntKind.wrap .u8 x1_0]).length))], [.gone, .flat false 1 5 1 (fun j => [[.n .u8 (IntKind.wrap .u8 x1_0)]].getD j []), eR5 (x1_r0 ++ [IntKind.wrap .u8 x1_0])]⟩) (by kernel_rfl) ?_
            refine ak_toStr (av := .own 2 1 0 ((x1_r0 ++ [IntKind.wrap .u8 x1_0]).length)) (dst := some 22) (k' := (K36 111110 6)) hT [22] (x1_r0 ++ [IntKind.wrap .u8 x1_0]) (by kernel_rfl) (.own (fz := false) (e := 5) (by kernel_rfl)) (st' := ⟨23, [(22, .s (strB (x1_r0 ++ [IntKind.wrap .u8 x1_0])))], [.gone, .flat false 1 5 1 (fun j => [[.n .u8 (IntKind.wrap .u8 x1_0)]].getD j []), eR5 (x1_r0 ++ [IntKind.wrap .u8 x1_0])]⟩) (by kernel_rfl) ?_
            refine goK hT 2 (K36 11111 1) ⟨23, [(2, .s (strB (x1_r0 ++ [IntKind.wrap .u8 x1_0])))], [.gone, .flat false 1 5 1 (fun j => [[.n .u8 (IntKind.wrap .u8 x1_0)]].getD j []), eR5 (x1_r0 ++ [IntKind.wrap .u8 x1_0])]⟩ ?_
            obtain rfl := retC H
            exact ak_ret hf hX (av := .s (strB (x1_r0 ++ [IntKind.wrap .u8 x1_0]))) (by kernel_rfl) [] (sel_of_eq (by kernel_rfl)) (by decide) (by rw [h0]; rfl) (by kernel_rfl) (fun _ h => all_nil h) (.d (.v _))
    refine cutK [0] ⟨23, [(0, .i a0), (3, .own 0 1 0 ([] : List Int).length)], [eR5 ([] : List Int)]⟩ h0 ?_
    obtain ⟨n, H⟩ := loopC H
    exact (L n) a0 ([] : List Int) H


theorem vint_may.says (a0 : Int) : Says Try.prog 62 [] [.i a0] [] (.b (vint_may a0)) := by
  obtain ⟨r, H⟩ : ∃ r, vint_may a0 = r := ⟨_, rfl⟩
  rw [H]
  refine says_of Try.func62 rfl (nt := 9) rfl (Nat.le_of_ble_eq_true rfl) fun X hP h0 hX => ?_
  have hT : TabOk X.P T := hP ▸ tok
  have hf : X.P.funcs[62]? = some Try.f62 := hP ▸ Try.func62
  have Jj1 : ∀ (y1_2 : Bool), (vint_may.j1 y1_2) = r → AK X 62 ((K62 11 1)) (Back X [] (.b r)) ⟨9, [(2, .b y1_2)], []⟩ := by
    intro y1_2 H
    obtain rfl := H
    exact ak_ret hf hX (av := .b y1_2) (by kernel_rfl) [] (sel_of_eq (by kernel_rfl)) (by decide) (by rw [h0]; rfl) (by kernel_rfl) (fun _ h => all_nil h) (.d (.v _))
  refine goK hT 9 (K62 110 3) ⟨9, [(0, .i a0), (5, .b (decide (a0 ≥ (-4611686018427387904))))], []⟩ ?_
  by_cases c1 : a0 ≥ (-4611686018427387904)
  · replace H := iT c1 H
    rw [decide_eq_true c1]
    refine goK hT 5 (K62 11 1) ⟨9, [(2, .b (decide (a0 ≤ 4611686018427387903)))], []⟩ ?_
    refine cutK [] ⟨9, [(2, .b (decide (a0 ≤ 4611686018427387903)))], []⟩ h0 ?_
    exact Jj1 (decide (a0 ≤ 4611686018427387903)) H
  · replace H := iF c1 H
    rw [decide_eq_false c1]
    refine goK hT 5 (K62 11 1) ⟨9, [(2, .b false)], []⟩ ?_
    refine cutK [] ⟨9, [(2, .b false)], []⟩ h0 ?_
    exact Jj1 false H


theorem vint_Whole.says (a0 : Int) {r : ByteArray} (H : vint_Whole a0 = some r) : Says Try.prog 37 [] [.i a0] [] (.s r) := by
  refine says_of Try.func37 rfl (nt := 17) rfl (Nat.le_of_ble_eq_true rfl) fun X hP h0 hX => ?_
  have hT : TabOk X.P T := hP ▸ tok
  have hf : X.P.funcs[37]? = some Try.f37 := hP ▸ Try.func37
  refine goK hT 9 (K37 11000 1) ⟨17, [(0, .i a0), (4, .i a0)], []⟩ ?_
  refine ak_callP (avs := [.i a0]) (dst := some 5) (k' := (K37 11000 2)) [0, 5] [] hP enters_62 (vint_may.says a0) (by kernel_rfl) (hands_none _) (.cons (pass_d _) .nil) (st' := ⟨17, [(0, .i a0), (5, .b (vint_may a0))], []⟩) (by kernel_rfl) ?_
  refine goK hT 3 (K37 1100 1) ⟨17, [(0, .i a0), (3, .b (!(vint_may a0)))], []⟩ ?_
  by_cases c1 : (vint_may a0) = true
  · replace H := iT c1 H
    rw [c1]
    refine goK hT 7 (K37 110011 1) ⟨17, [(0, .i a0), (7, .b (decide (a0 < 0)))], []⟩ ?_
    by_cases c2 : a0 < 0
    · replace H := iT c2 H
      rw [decide_eq_true c2]
      refine goK hT 6 (K37 110011100 3) ⟨17, [(12, .i (IntKind.wrap .i64 ((IntKind.wrap .i64 ((-2) * a0)) - 1)))], []⟩ ?_
      obtain ⟨v1, h3, H⟩ := ibC H
      refine ak_callP (avs := [.i (IntKind.wrap .i64 ((IntKind.wrap .i64 ((-2) * a0)) - 1))]) (dst := some 13) (k' := (K37 110011100 4)) [13] [] hP enters_36 (vint_Num.says (IntKind.wrap .i64 ((IntKind.wrap .i64 ((-2) * a0)) - 1)) h3) (by kernel_rfl) (hands_none _) (.cons (pass_d _) .nil) (st' := ⟨17, [(13, .s v1)], []⟩) (by kernel_rfl) ?_
      refine goK hT 2 (K37 11001110 1) ⟨17, [(2, .s v1)], []⟩ ?_
      obtain rfl := retC H
      exact ak_ret hf hX (av := .s v1) (by kernel_rfl) [] (sel_of_eq (by kernel_rfl)) (by decide) (by rw [h0]; rfl) (by kernel_rfl) (fun _ h => all_nil h) (.d (.v _))
    · replace H := iF c2 H
      rw [decide_eq_false c2]
      refine goK hT 3 (K37 11 1) ⟨17, [(0, .i a0)], []⟩ ?_
      refine goK hT 4 (K37 1110 2) ⟨17, [(15, .i (IntKind.wrap .i64 (2 * a0)))], []⟩ ?_
      obtain ⟨v2, h4, H⟩ := ibC H
      refine ak_callP (avs := [.i (IntKind.wrap .i64 (2 * a0))]) (dst := some 16) (k' := (K37 1110 3)) [16] [] hP enters_36 (vint_Num.says (IntKind.wrap .i64 (2 * a0)) h4) (by kernel_rfl) (hands_none _) (.cons (pass_d _) .nil) (st' := ⟨17, [(16, .s v2)], []⟩) (by kernel_rfl) ?_
      refine goK hT 2 (K37 111 1) ⟨17, [(2, .s v2)], []⟩ ?_
      obtain rfl := retC H
      exact ak_ret hf hX (av := .s v2) (by kernel_rfl) [] (sel_of_eq (by kernel_rfl)) (by decide) (by rw [h0]; rfl) (by kernel_rfl) (fun _ h => all_nil h) (.d (.v _))
  · replace H := iF c1 H
    rw [boF c1]
    refine goK hT 5 (K37 110010 1) ⟨17, [(2, .s (⟨#[]⟩ : ByteArray))], []⟩ ?_
    obtain rfl := retC H
    exact ak_ret hf hX (av := .s (⟨#[]⟩ : ByteArray)) (by kernel_rfl) [] (sel_of_eq (by kernel_rfl)) (by decide) (by rw [h0]; rfl) (by kernel_rfl) (fun _ h => all_nil h) (.d (.v _))


theorem mut_Text.says (a0 : api_Mut) {r : ByteArray} (H : mut_Text a0 = some r) : Says Try.prog 14 [] [.d (eG26 a0)] [] (.s r) := by
  refine says_of Try.func14 rfl (nt := 67) rfl (Nat.le_of_ble_eq_true rfl) fun X hP h0 hX => ?_
  have hT : TabOk X.P T := hP ▸ tok
  have hf : X.P.funcs[14]? = some Try.f14 := hP ▸ Try.func14
  refine goK hT 9 (K14 1100 1) ⟨67, [(1, .ptr 0 0 0 0), (8, .d (eG26 a0))], [.box 26 (eC26 a0)]⟩ ?_
  obtain ⟨v1, h1, H⟩ := ibC H
  refine ak_callP (avs := [.d (eG26 a0)]) (dst := some 9) (k' := (K14 1100 2)) [1, 9] [] hP enters_18 (mut_Check.says a0 h1) (by kernel_rfl) (hands_none _) (.cons (pass_d _) .nil) (st' := ⟨67, [(1, .ptr 0 0 0 0), (9, .b v1)], [.box 26 (eC26 a0)]⟩) (by kernel_rfl) ?_
  refine goK hT 2 (K14 110 1) ⟨67, [(1, .ptr 0 0 0 0), (10, .b (!v1))], [.box 26 (eC26 a0)]⟩ ?_
  by_cases c2 : v1 = true
  · replace H := iT c2 H
    rw [c2]
    refine goK hT 2 (K14 11 1) ⟨67, [(1, .ptr 0 0 0 0)], [.box 26 (eC26 a0)]⟩ ?_
    refine goK hT 33 (K14 1111010011000 0) ⟨67, [(1, .ptr 0 0 0 0), (3, .ptr 1 0 0 0), (20, .own 2 1 0 4), (21, .i 4), (22, .i 0)], [.box 26 (eC26 a0), .box 71 [.d .np, .ns], .flat false 1 3 4 (fun j => [[.i a0.Client], [.i a0.Seq], [.i a0.Kind], [.i (a0.Pairs.length : Int)]].getD j [])]⟩ ?_
    refine ak_idx hT [1, 3, 20, 21, 22, 24] (i := 0) (n := (4 : Int)) (by decide) (by decide) (k' := (K14 1111010011000 1)) (st' := ⟨67, [(1, .ptr 0 0 0 0), (3, .ptr 1 0 0 0), (20, .own 2 1 0 4), (21, .i 4), (22, .i 0), (24, .ptr 2 1 0 0)], [.box 26 (eC26 a0), .box 71 [.d .np, .ns], .flat false 1 3 4 (fun j => [[.i a0.Client], [.i a0.Seq], [.i a0.Kind], [.i (a0.Pairs.length : Int)]].getD j [])]⟩) (by kernel_rfl) ?_
    refine ak_ld hT [1, 3, 20, 21, 22, 25] (i := 0) (n := 4) (by decide) (k' := (K14 1111010011000 2)) (st' := ⟨67, [(1, .ptr 0 0 0 0), (3, .ptr 1 0 0 0), (20, .own 2 1 0 4), (21, .i 4), (22, .i 0), (25, .i a0.Client)], [.box 26 (eC26 a0), .box 71 [.d .np, .ns], .flat false 1 3 4 (fun j => [[.i a0.Client], [.i a0.Seq], [.i a0.Kind], [.i (a0.Pairs.length : Int)]].getD j [])]⟩) (by kernel_rfl) ?_
    refine goK hT 4 (K14 1111010011001 1) ⟨67, [(1, .ptr 0 0 0 0), (3, .ptr 1 0 0 0), (20, .own 2 1 0 4), (21, .i 4), (22, .i 0), (26, .i a0.Client)], [.box 26 (eC26 a0), .box 71 [.d .np, .ns], .flat false 1 3 4 (fun j => [[.i a0.Client], [.i a0.Seq], [.i a0.Kind], [.i (a0.Pairs.length : Int)]].getD j [])]⟩ ?_
    obtain ⟨v2, h3, H⟩ := ibC H
    refine ak_callP (avs := [.i a0.Client]) (dst := some 27) (k' := (K14 1111010011001 2)) [1, 3, 20, 21, 22, 27] [] hP enters_36 (vint_Num.says a0.Client h3) (by kernel_rfl) (hands_none _) (.cons (pass_d _) .nil) (st' := ⟨67, [(1, .ptr 0 0 0 0), (3, .ptr 1 0 0 0), (20, .own 2 1 0 4), (21, .i 4), (22, .i 0), (27, .s v2)], [.box 26 (eC26 a0), .box 71 [.d .np, .ns], .flat false 1 3 4 (fun j => [[.i a0.Client], [.i a0.Seq], [.i a0.Kind], [.i (a0.Pairs.length : Int)]].getD j [])]⟩) (by kernel_rfl) ?_
    refine ak_nilBox (tb := 71) (cs := [.d .np, .ns]) 1 1 1 5 (vec (eI .u8) 0 []) (st' := ⟨67, [(1, .ptr 0 0 0 0), (3, .ptr 1 0 0 0), (20, .own 2 1 0 4), (21, .i 4), (22, .i 0), (27, .s v2)], [.box 26 (eC26 a0), .box 71 [.d .np, .own 3 1 0 ((bytesL (⟨#[]⟩ : ByteArray)).length)], .flat false 1 3 4 (fun j => [[.i a0.Client], [.i a0.Seq], [.i a0.Kind], [.i (a0.Pairs.length : Int)]].getD j []), eR5 (bytesL (⟨#[]⟩ : ByteArray))]⟩) (by kernel_rfl) (by kernel_rfl) ?_
    obtain ⟨h4, H⟩ := iC H
    refine ak_callP (avs := [.ptr 1 0 0 0, .s v2]) (dst := some 28) (k' := (K14 1111010011001 3)) [1, 3, 20, 21, 22] [1, 3] hP enters_35 (bldWrite35 (.np) (.inl rfl) (⟨#[]⟩ : ByteArray) v2 h4) (by kernel_rfl) (hands_two rfl rfl rfl rfl (by decide)) (.cons (.same (.ptr 0 0 0 0)) (.cons (pass_d _) .nil)) (st' := ⟨67, [(1, .ptr 0 0 0 0), (3, .ptr 1 0 0 0), (20, .own 2 1 0 4), (21, .i 4), (22, .i 0)], [.box 26 (eC26 a0), .box 71 [.ptr 1 0 0 0, .own 4 1 0 ((bytesL ((⟨#[]⟩ : ByteArray) ++ v2)).length)], .flat false 1 3 4 (fun j => [[.i a0.Client], [.i a0.Seq], [.i a0.Kind], [.i (a0.Pairs.length : Int)]].getD j []), .gone, eR5 (bytesL ((⟨#[]⟩ : ByteArray) ++ v2))]⟩) (by kernel_rfl) ?_
    refine goK hT 18 (K14 1111010011000 0) ⟨67, [(1, .ptr 0 0 0 0), (3, .ptr 1 0 0 0), (20, .own 2 1 0 4), (21, .i 4), (22, .i 1)], [.box 26 (eC26 a0), .box 71 [.ptr 1 0 0 0, .own 4 1 0 ((bytesL ((⟨#[]⟩ : ByteArray) ++ v2)).length)], .flat false 1 3 4 (fun j => [[.i a0.Client], [.i a0.Seq], [.i a0.Kind], [.i (a0.Pairs.length : Int)]].getD j []), .gone, eR5 (bytesL ((⟨#[]⟩ : ByteArray) ++ v2))]⟩ ?_
    refine ak_idx hT [1, 3, 20, 21, 22, 24] (i := 1) (n := (4 : Int)) (by decide) (by decide) (k' := (K14 1111010011000 1)) (st' := ⟨67, [(1, .ptr 0 0 0 0), (3, .ptr 1 0 0 0), (20, .own 2 1 0 4), (21, .i 4), (22, .i 1), (24, .ptr 2 1 1 0)], [.box 26 (eC26 a0), .box 71 [.ptr 1 0 0 0, .own 4 1 0 ((bytesL ((⟨#[]⟩ : ByteArray) ++ v2)).length)], .flat false 1 3 4 (fun j => [[.i a0.Client], [.i a0.Seq], [.i a0.Kind], [.i (a0.Pairs.length : Int)]].getD j []), .gone, eR5 (bytesL ((⟨#[]⟩ : ByteArray) ++ v2))]⟩) (by kernel_rfl) ?_
    refine ak_ld hT [1, 3, 20, 21, 22, 25] (i := 1) (n := 4) (by decide) (k' := (K14 1111010011000 2)) (st' := ⟨67, [(1, .ptr 0 0 0 0), (3, .ptr 1 0 0 0), (20, .own 2 1 0 4), (21, .i 4), (22, .i 1), (25, .i a0.Seq)], [.box 26 (eC26 a0), .box 71 [.ptr 1 0 0 0, .own 4 1 0 ((bytesL ((⟨#[]⟩ : ByteArray) ++ v2)).length)], .flat false 1 3 4 (fun j => [[.i a0.Client], [.i a0.Seq], [.i a0.Kind], [.i (a0.Pairs.length : Int)]].getD j []), .gone, eR5 (bytesL ((⟨#[]⟩ : ByteArray) ++ v2))]⟩) (by kernel_rfl) ?_
    refine goK hT 4 (K14 1111010011001 1) ⟨67, [(1, .ptr 0 0 0 0), (3, .ptr 1 0 0 0), (20, .own 2 1 0 4), (21, .i 4), (22, .i 1), (26, .i a0.Seq)], [.box 26 (eC26 a0), .box 71 [.ptr 1 0 0 0, .own 4 1 0 ((bytesL ((⟨#[]⟩ : ByteArray) ++ v2)).length)], .flat false 1 3 4 (fun j => [[.i a0.Client], [.i a0.Seq], [.i a0.Kind], [.i (a0.Pairs.length : Int)]].getD j []), .gone, eR5 (bytesL ((⟨#[]⟩ : ByteArray) ++ v2))]⟩ ?_
    obtain ⟨v3, h5, H⟩ := ibC H
    refine ak_callP (avs := [.i a0.Seq]) (dst := some 27) (k' := (K14 1111010011001 2)) [1, 3, 20, 21, 22, 27] [] hP enters_36 (vint_Num.says a0.Seq h5) (by kernel_rfl) (hands_none _) (.cons (pass_d _) .nil) (st' := ⟨67, [(1, .ptr 0 0 0 0), (3, .ptr 1 0 0 0), (20, .own 2 1 0 4), (21, .i 4), (22, .i 1), (27, .s v3)], [.box 26 (eC26 a0), .box 71 [.ptr 1 0 0 0, .own 4 1 0 ((bytesL ((⟨#[]⟩ : ByteArray) ++ v2)).length)], .flat false 1 3 4 (fun j => [[.i a0.Client], [.i a0.Seq], [.i a0.Kind], [.i (a0.Pairs.length : Int)]].getD j []), .gone, eR5 (bytesL ((⟨#[]⟩ : ByteArray) ++ v2))]⟩) (by kernel_rfl) ?_
    obtain ⟨h6, H⟩ := iC H
    refine ak_callP (avs := [.ptr 1 0 0 0, .s v3]) (dst := some 28) (k' := (K14 1111010011001 3)) [1, 3, 20, 21, 22] [1, 4] hP enters_35 (bldWrite35 (.ptr 0 0 0 0) (.inr rfl) ((⟨#[]⟩ : ByteArray) ++ v2) v3 h6) (by kernel_rfl) (hands_two rfl rfl rfl rfl (by decide)) (.cons (.same (.ptr 0 0 0 0)) (.cons (pass_d _) .nil)) (st' := ⟨67, [(1, .ptr 0 0 0 0), (3, .ptr 1 0 0 0), (20, .own 2 1 0 4), (21, .i 4), (22, .i 1)], [.box 26 (eC26 a0), .box 71 [.ptr 1 0 0 0, .own 5 1 0 ((bytesL (((⟨#[]⟩ : ByteArray) ++ v2) ++ v3)).length)], .flat false 1 3 4 (fun j => [[.i a0.Client], [.i a0.Seq], [.i a0.Kind], [.i (a0.Pairs.length : Int)]].getD j []), .gone, .gone, eR5 (bytesL (((⟨#[]⟩ : ByteArray) ++ v2) ++ v3))]⟩) (by kernel_rfl) ?_
    refine goK hT 18 (K14 1111010011000 0) ⟨67, [(1, .ptr 0 0 0 0), (3, .ptr 1 0 0 0), (20, .own 2 1 0 4), (21, .i 4), (22, .i 2)], [.box 26 (eC26 a0), .box 71 [.ptr 1 0 0 0, .own 5 1 0 ((bytesL (((⟨#[]⟩ : ByteArray) ++ v2) ++ v3)).length)], .flat false 1 3 4 (fun j => [[.i a0.Client], [.i a0.Seq], [.i a0.Kind], [.i (a0.Pairs.length : Int)]].getD j []), .gone, .gone, eR5 (bytesL (((⟨#[]⟩ : ByteArray) ++ v2) ++ v3))]⟩ ?_
    refine ak_idx hT [1, 3, 20, 21, 22, 24] (i := 2) (n := (4 : Int)) (by decide) (by decide) (k' := (K14 1111010011000 1)) (st' := ⟨67, [(1, .ptr 0 0 0 0), (3, .ptr 1 0 0 0), (20, .own 2 1 0 4), (21, .i 4), (22, .i 2), (24, .ptr 2 1 2 0)], [.box 26 (eC26 a0), .box 71 [.ptr 1 0 0 0, .own 5 1 0 ((bytesL (((⟨#[]⟩ : ByteArray) ++ v2) ++ v3)).length)], .flat false 1 3 4 (fun j => [[.i a0.Client], [.i a0.Seq], [.i a0.Kind], [.i (a0.Pairs.length : Int)]].getD j []), .gone, .gone, eR5 (bytesL (((⟨#[]⟩ : ByteArray) ++ v2) ++ v3))]⟩) (by kernel_rfl) ?_
    refine ak_ld hT [1, 3, 20, 21, 22, 25] (i := 2) (n := 4) (by decide) (k' := (K14 1111010011000 2)) (st' := ⟨67, [(1, .ptr 0 0 0 0), (3, .ptr 1 0 0 0), (20, .own 2 1 0 4), (21, .i 4), (22, .i 2), (25, .i a0.Kind)], [.box 26 (eC26 a0), .box 71 [.ptr 1 0 0 0, .own 5 1 0 ((bytesL (((⟨#[]⟩ : ByteArray) ++ v2) ++ v3)).length)], .flat false 1 3 4 (fun j => [[.i a0.Client], [.i a0.Seq], [.i a0.Kind], [.i (a0.Pairs.length : Int)]].getD j []), .gone, .gone, eR5 (bytesL (((⟨#[]⟩ : ByteArray) ++ v2) ++ v3))]⟩) (by kernel_rfl) ?_
    refine goK hT 4 (K14 1111010011001 1) ⟨67, [(1, .ptr 0 0 0 0), (3, .ptr 1 0 0 0), (20, .own 2 1 0 4), (21, .i 4), (22, .i 2), (26, .i a0.Kind)], [.box 26 (eC26 a0), .box 71 [.ptr 1 0 0 0, .own 5 1 0 ((bytesL (((⟨#[]⟩ : ByteArray) ++ v2) ++ v3)).length)], .flat false 1 3 4 (fun j => [[.i a0.Client], [.i a0.Seq], [.i a0.Kind], [.i (a0.Pairs.length : Int)]].getD j []), .gone, .gone, eR5 (bytesL (((⟨#[]⟩ : ByteArray) ++ v2) ++ v3))]⟩ ?_
    obtain ⟨v4, h7, H⟩ := ibC H
    refine ak_callP (avs := [.i a0.Kind]) (dst := some 27) (k' := (K14 1111010011001 2)) [1, 3, 20, 21, 22, 27] [] hP enters_36 (vint_Num.says a0.Kind h7) (by kernel_rfl) (hands_none _) (.cons (pass_d _) .nil) (st' := ⟨67, [(1, .ptr 0 0 0 0), (3, .ptr 1 0 0 0), (20, .own 2 1 0 4), (21, .i 4), (22, .i 2), (27, .s v4)], [.box 26 (eC26 a0), .box 71 [.ptr 1 0 0 0, .own 5 1 0 ((bytesL (((⟨#[]⟩ : ByteArray) ++ v2) ++ v3)).length)], .flat false 1 3 4 (fun j => [[.i a0.Client], [.i a0.Seq], [.i a0.Kind], [.i (a0.Pairs.length : Int)]].getD j []), .gone, .gone, eR5 (bytesL (((⟨#[]⟩ : ByteArray) ++ v2) ++ v3))]⟩) (by kernel_rfl) ?_
    obtain ⟨h8, H⟩ := iC H
    refine ak_callP (avs := [.ptr 1 0 0 0, .s v4]) (dst := some 28) (k' := (K14 1111010011001 3)) [1, 3, 20, 21, 22] [1, 5] hP enters_35 (bldWrite35 (.ptr 0 0 0 0) (.inr rfl) (((⟨#[]⟩ : ByteArray) ++ v2) ++ v3) v4 h8) (by kernel_rfl) (hands_two rfl rfl rfl rfl (by decide)) (.cons (.same (.ptr 0 0 0 0)) (.cons (pass_d _) .nil)) (st' := ⟨67, [(1, .ptr 0 0 0 0), (3, .ptr 1 0 0 0), (20, .own 2 1 0 4), (21, .i 4), (22, .i 2)], [.box 26 (eC26 a0), .box 71 [.ptr 1 0 0 0, .own 6 1 0 ((bytesL ((((⟨#[]⟩ : ByteArray) ++ v2) ++ v3) ++ v4)).length)], .flat false 1 3 4 (fun j => [[.i a0.Client], [.i a0.Seq], [.i a0.Kind], [.i (a0.Pairs.length : Int)]].getD j []), .gone, .gone, .gone, eR5 (bytesL ((((⟨#[]⟩ : ByteArray) ++ v2) ++ v3) ++ v4))]⟩) (by kernel_rfl) ?_
    refine goK hT 18 (K14 1111010011000 0) ⟨67, [(1, .ptr 0 0 0 0), (3, .ptr 1 0 0 0), (20, .own 2 1 0 4), (21, .i 4), (22, .i 3)], [.box 26 (eC26 a0), .box 71 [.ptr 1 0 0 0, .own 6 1 0 ((bytesL ((((⟨#[]⟩ : ByteArray) ++ v2) ++ v3) ++ v4)).length)], .flat false 1 3 4 (fun j => [[.i a0.Client], [.i a0.Seq], [.i a0.Kind], [.i (a0.Pairs.length : Int)]].getD j []), .gone, .gone, .gone, eR5 (bytesL ((((⟨#[]⟩ : ByteArray) ++ v2) ++ v3) ++ v4))]⟩ ?_
    refine ak_idx hT [1, 3, 20, 21, 22, 24] (i := 3) (n := (4 : Int)) (by decide) (by decide) (k' := (K14 1111010011000 1)) (st' := ⟨67, [(1, .ptr 0 0 0 0), (3, .ptr 1 0 0 0), (20, .own 2 1 0 4), (21, .i 4), (22, .i 3), (24, .ptr 2 1 3 0)], [.box 26 (eC26 a0), .box 71 [.ptr 1 0 0 0, .own 6 1 0 ((bytesL ((((⟨#[]⟩ : ByteArray) ++ v2) ++ v3) ++ v4)).length)], .flat false 1 3 4 (fun j => [[.i a0.Client], [.i a0.Seq], [.i a0.Kind], [.i (a0.Pairs.length : Int)]].getD j []), .gone, .gone, .gone, eR5 (bytesL ((((⟨#[]⟩ : ByteArray) ++ v2) ++ v3) ++ v4))]⟩) (by kernel_rfl) ?_
    refine ak_ld hT [1, 3, 20, 21, 22, 25] (i := 3) (n := 4) (by decide) (k' := (K14 1111010011000 2)) (st' := ⟨67, [(1, .ptr 0 0 0 0), (3, .ptr 1 0 0 0), (20, .own 2 1 0 4), (21, .i 4), (22, .i 3), (25, .i (a0.Pairs.length : Int))], [.box 26 (eC26 a0), .box 71 [.ptr 1 0 0 0, .own 6 1 0 ((bytesL ((((⟨#[]⟩ : ByteArray) ++ v2) ++ v3) ++ v4)).length)], .flat false 1 3 4 (fun j => [[.i a0.Client], [.i a0.Seq], [.i a0.Kind], [.i (a0.Pairs.length : Int)]].getD j []), .gone, .gone, .gone, eR5 (bytesL ((((⟨#[]⟩ : ByteArray) ++ v2) ++ v3) ++ v4))]⟩) (by kernel_rfl) ?_
    refine goK hT 4 (K14 1111010011001 1) ⟨67, [(1, .ptr 0 0 0 0), (3, .ptr 1 0 0 0), (20, .own 2 1 0 4), (21, .i 4), (22, .i 3), (26, .i (a0.Pairs.length : Int))], [.box 26 (eC26 a0), .box 71 [.ptr 1 0 0 0, .own 6 1 0 ((bytesL ((((⟨#[]⟩ : ByteArray) ++ v2) ++ v3) ++ v4)).length)], .flat false 1 3 4 (fun j => [[.i a0.Client], [.i a0.Seq], [.i a0.Kind], [.i (a0.Pairs.length : Int)]].getD j []), .gone, .gone, .gone, eR5 (bytesL ((((⟨#[]⟩ : ByteArray) ++ v2) ++ v3) ++ v4))]⟩ ?_
    obtain ⟨v5, h9, H⟩ := ibC H
    refine ak_callP (avs := [.i (a0.Pairs.length : Int)]) (dst := some 27) (k' := (K14 1111010011001 2)) [1, 3, 20, 21, 22, 27] [] hP enters_36 (vint_Num.says (a0.Pairs.length : Int) h9) (by kernel_rfl) (hands_none _) (.cons (pass_d _) .nil) (st' := ⟨67, [(1, .ptr 0 0 0 0), (3, .ptr 1 0 0 0), (20, .own 2 1 0 4), (21, .i 4), (22, .i 3), (27, .s v5)], [.box 26 (eC26 a0), .box 71 [.ptr 1 0 0 0, .own 6 1 0 ((bytesL ((((⟨#[]⟩ : ByteArray) ++ v2) ++ v3) ++ v4)).length)], .flat false 1 3 4 (fun j => [[.i a0.Client], [.i a0.Seq], [.i a0.Kind], [.i (a0.Pairs.length : Int)]].getD j []), .gone, .gone, .gone, eR5 (bytesL ((((⟨#[]⟩ : ByteArray) ++ v2) ++ v3) ++ v4))]⟩) (by kernel_rfl) ?_
    obtain ⟨h10, H⟩ := iC H
    refine ak_callP (avs := [.ptr 1 0 0 0, .s v5]) (dst := some 28) (k' := (K14 1111010011001 3)) [1, 3, 20, 21, 22] [1, 6] hP enters_35 (bldWrite35 (.ptr 0 0 0 0) (.inr rfl) ((((⟨#[]⟩ : ByteArray) ++ v2) ++ v3) ++ v4) v5 h10) (by kernel_rfl) (hands_two rfl rfl rfl rfl (by decide)) (.cons (.same (.ptr 0 0 0 0)) (.cons (pass_d _) .nil)) (st' := ⟨67, [(1, .ptr 0 0 0 0), (3, .ptr 1 0 0 0), (20, .own 2 1 0 4), (21, .i 4), (22, .i 3)], [.box 26 (eC26 a0), .box 71 [.ptr 1 0 0 0, .own 7 1 0 ((bytesL (((((⟨#[]⟩ : ByteArray) ++ v2) ++ v3) ++ v4) ++ v5)).length)], .flat false 1 3 4 (fun j => [[.i a0.Client], [.i a0.Seq], [.i a0.Kind], [.i (a0.Pairs.length : Int)]].getD j []), .gone, .gone, .gone, .gone, eR5 (bytesL (((((⟨#[]⟩ : ByteArray) ++ v2) ++ v3) ++ v4) ++ v5))]⟩) (by kernel_rfl) ?_
    refine goK hT 24 (K14 11111010 0) ⟨67, [(1, .ptr 0 0 0 0), (3, .ptr 1 0 0 0), (31, .d (eL67 true a0.Pairs)), (32, .i (a0.Pairs.length : Int)), (33, .i 0)], [.box 26 (eC26 a0), .box 71 [.ptr 1 0 0 0, .own 7 1 0 ((bytesL (((((⟨#[]⟩ : ByteArray) ++ v2) ++ v3) ++ v4) ++ v5)).length)], .flat false 1 3 4 (fun j => [[.i a0.Client], [.i a0.Seq], [.i a0.Kind], [.i (a0.Pairs.length : Int)]].getD j []), .gone, .gone, .gone, .gone, eR5 (bytesL (((((⟨#[]⟩ : ByteArray) ++ v2) ++ v3) ++ v4) ++ v5))]⟩ ?_
    have L : ∀ n, (∀ (x1_33 : Int) (x1_r2 : ByteArray), iter (mut_Text.step a0) n (.l1 x1_33 x1_r2) = some r → AK X 14 ((K14 11111010 0)) (Back X [] (.s r)) ⟨67, [(1, .ptr 0 0 0 0), (3, .ptr 1 0 0 0), (31, .d (eL67 true a0.Pairs)), (32, .i (a0.Pairs.length : Int)), (33, .i x1_33)], [.box 26 (eC26 a0), .box 71 [.ptr 1 0 0 0, .own 2 1 0 ((bytesL x1_r2).length)], eR5 (bytesL x1_r2)]⟩) := by
      intro n
      induction n with
      | zero => exact fun _ _ H => iter0 H
      | succ n ih =>
        · intro x1_33 x1_r2 H
          refine goK hT 5 (K14 1111101001 0) ⟨67, [(1, .ptr 0 0 0 0), (3, .ptr 1 0 0 0), (31, .d (eL67 true a0.Pairs)), (32, .i (a0.Pairs.length : Int)), (33, .i x1_33), (34, .b (decide (x1_33 < (a0.Pairs.length : Int))))], [.box 26 (eC26 a0), .box 71 [.ptr 1 0 0 0, .own 2 1 0 ((bytesL x1_r2).length)], eR5 (bytesL x1_r2)]⟩ ?_
          by_cases c11 : x1_33 < (a0.Pairs.length : Int)
          · replace H := sT c11 H
            rw [decide_eq_true c11]
            refine goK hT 2 (K14 1111101001 1) ⟨67, [(1, .ptr 0 0 0 0), (3, .ptr 1 0 0 0), (31, .d (eL67 true a0.Pairs)), (32, .i (a0.Pairs.length : Int)), (33, .i x1_33)], [.box 26 (eC26 a0), .box 71 [.ptr 1 0 0 0, .own 2 1 0 ((bytesL x1_r2).length)], eR5 (bytesL x1_r2)]⟩ ?_
            refine goK hT 4 (K14 11111010011000 0) ⟨67, [(1, .ptr 0 0 0 0), (3, .ptr 1 0 0 0), (31, .d (eL67 true a0.Pairs)), (32, .i (a0.Pairs.length : Int)), (33, .i x1_33)], [.box 26 (eC26 a0), .box 71 [.ptr 1 0 0 0, .own 2 1 0 ((bytesL x1_r2).length)], eR5 (bytesL x1_r2)]⟩ ?_
            obtain ⟨h20, H⟩ := sC H
            refine ak_idx hT [1, 3, 31, 32, 33, 35] (i := x1_33) (n := (a0.Pairs.length : Int)) h20.1 h20.2 (k' := (K14 11111010011000 1)) (st' := ⟨67, [(1, .ptr 0 0 0 0), (3, .ptr 1 0 0 0), (31, .d (eL67 true a0.Pairs)), (32, .i (a0.Pairs.length : Int)), (33, .i x1_33), (35, .d (eP67 true a0.Pairs x1_33.toNat 0))], [.box 26 (eC26 a0), .box 71 [.ptr 1 0 0 0, .own 2 1 0 ((bytesL x1_r2).length)], eR5 (bytesL x1_r2)]⟩) (by kernel_rfl) ?_
            refine goK hT 4 (K14 1111101001100 1) ⟨67, [(1, .ptr 0 0 0 0), (3, .ptr 1 0 0 0), (7, .ptr 3 0 0 0), (31, .d (eL67 true a0.Pairs)), (32, .i (a0.Pairs.length : Int)), (33, .i x1_33)], [.box 26 (eC26 a0), .box 71 [.ptr 1 0 0 0, .own 2 1 0 ((bytesL x1_r2).length)], eR5 (bytesL x1_r2), .box 67 (eC67 (a0.Pairs.getD x1_33.toNat api_Pair.z))]⟩ ?_
            obtain ⟨v9, h21, H⟩ := sbC H
            refine drawK (hP ▸ mixed) 5 [1, 3, 7, 31, 32, 33] [some (.ptr 3 0 0 0), some (.i ((a0.Pairs.getD x1_33.toNat api_Pair.z).Key)), some (.s v9), some (.ptr 3 0 0 1), some (.i ((a0.Pairs.getD x1_33.toNat api_Pair.z).Val))] (opG (opG (opS (opG (opG op0 hT) hT) (fun R rest h => ak_callD (avs := [.i ((a0.Pairs.getD x1_33.toNat api_Pair.z).Key)]) (dst := some 39) hP enters_36 (vint_Num.says ((a0.Pairs.getD x1_33.toNat api_Pair.z).Key) h21) (by kernel_rfl) (.cons (pass_d _) .nil) (by kernel_rfl) h)) hT) hT) ?_
            refine goK hT 0 (K14 11111010011001 5) ⟨67, [(1, .ptr 0 0 0 0), (3, .ptr 1 0 0 0), (31, .d (eL67 true a0.Pairs)), (32, .i (a0.Pairs.length : Int)), (33, .i x1_33), (39, .s v9), (41, .i ((a0.Pairs.getD x1_33.toNat api_Pair.z).Val))], [.box 26 (eC26 a0), .box 71 [.ptr 1 0 0 0, .own 2 1 0 ((bytesL x1_r2).length)], eR5 (bytesL x1_r2), .box 67 (eC67 (a0.Pairs.getD x1_33.toNat api_Pair.z))]⟩ ?_
            obtain ⟨v10, h22, H⟩ := sbC H
            refine ak_callP (avs := [.i ((a0.Pairs.getD x1_33.toNat api_Pair.z).Val)]) (dst := some 42) (k' := (K14 11111010011001 6)) [1, 3, 31, 32, 33, 39, 42] [] hP enters_37 (vint_Whole.says ((a0.Pairs.getD x1_33.toNat api_Pair.z).Val) h22) (by kernel_rfl) (hands_none _) (.cons (pass_d _) .nil) (st' := ⟨67, [(1, .ptr 0 0 0 0), (3, .ptr 1 0 0 0), (31, .d (eL67 true a0.Pairs)), (32, .i (a0.Pairs.length : Int)), (33, .i x1_33), (39, .s v9), (42, .s v10)], [.box 26 (eC26 a0), .box 71 [.ptr 1 0 0 0, .own 2 1 0 ((bytesL x1_r2).length)], eR5 (bytesL x1_r2), .box 67 (eC67 (a0.Pairs.getD x1_33.toNat api_Pair.z))]⟩) (by kernel_rfl) ?_
            obtain ⟨h23, H⟩ := sC H
            refine ak_cat v9 v10 (some 43) [1, 3, 31, 32, 33, 43] (k' := (K14 11111010011001 7)) (by kernel_rfl) h23 (st' := ⟨67, [(1, .ptr 0 0 0 0), (3, .ptr 1 0 0 0), (31, .d (eL67 true a0.Pairs)), (32, .i (a0.Pairs.length : Int)), (33, .i x1_33), (43, .s (v9 ++ v10))], [.box 26 (eC26 a0), .box 71 [.ptr 1 0 0 0, .own 2 1 0 ((bytesL x1_r2).length)], eR5 (bytesL x1_r2), .box 67 (eC67 (a0.Pairs.getD x1_33.toNat api_Pair.z))]⟩) (by kernel_rfl) ?_
            obtain ⟨h24, H⟩ := sC H
            refine ak_callP (avs := [.ptr 1 0 0 0, .s (v9 ++ v10)]) (dst := some 44) (k' := (K14 11111010011001 8)) [1, 3, 31, 32, 33] [1, 2] hP enters_35 (bldWrite35 (.ptr 0 0 0 0) (.inr rfl) x1_r2 (v9 ++ v10) h24) (by kernel_rfl) (hands_two rfl rfl rfl rfl (by decide)) (.cons (.same (.ptr 0 0 0 0)) (.cons (pass_d _) .nil)) (st' := ⟨67, [(1, .ptr 0 0 0 0), (3, .ptr 1 0 0 0), (31, .d (eL67 true a0.Pairs)), (32, .i (a0.Pairs.length : Int)), (33, .i x1_33)], [.box 26 (eC26 a0), .box 71 [.ptr 1 0 0 0, .own 4 1 0 ((bytesL (x1_r2 ++ (v9 ++ v10))).length)], .gone, .box 67 (eC67 (a0.Pairs.getD x1_33.toNat api_Pair.z)), eR5 (bytesL (x1_r2 ++ (v9 ++ v10)))]⟩) (by kernel_rfl) ?_
            refine goK hT 7 (K14 11111010 0) ⟨67, [(1, .ptr 0 0 0 0), (3, .ptr 1 0 0 0), (31, .d (eL67 true a0.Pairs)), (32, .i (a0.Pairs.length : Int)), (33, .i (IntKind.wrap .i64 (x1_33 + 1)))], [.box 26 (eC26 a0), .box 71 [.ptr 1 0 0 0, .own 4 1 0 ((bytesL (x1_r2 ++ (v9 ++ v10))).length)], .gone, .box 67 (eC67 (a0.Pairs.getD x1_33.toNat api_Pair.z)), eR5 (bytesL (x1_r2 ++ (v9 ++ v10)))]⟩ ?_
            refine cutK [0, 1, 4] ⟨67, [(1, .ptr 0 0 0 0), (3, .ptr 1 0 0 0), (31, .d (eL67 true a0.Pairs)), (32, .i (a0.Pairs.length : Int)), (33, .i (IntKind.wrap .i64 (x1_33 + 1)))], [.box 26 (eC26 a0), .box 71 [.ptr 1 0 0 0, .own 2 1 0 ((bytesL (x1_r2 ++ (v9 ++ v10))).length)], eR5 (bytesL (x1_r2 ++ (v9 ++ v10)))]⟩ h0 ?_
            exact ih (IntKind.wrap .i64 (x1_33 + 1)) (x1_r2 ++ (v9 ++ v10)) H
          · replace H := sF c11 H
            have Jj1 : ∀ (y1_r1 : ByteArray), stk (mut_Text.j1 y1_r1) (iter (mut_Text.step a0) n) = some r → AK X 14 ((K14 111111 1)) (Back X [] (.s r)) ⟨67, [(3, .ptr 0 0 0 0)], [.box 71 [.ptr 0 0 0 0, .own 1 1 0 ((bytesL y1_r1).length)], eR5 (bytesL y1_r1)]⟩ := by
              intro y1_r1 H
              refine goK hT 2 (K14 11111110 0) ⟨67, [(3, .ptr 0 0 0 0)], [.box 71 [.ptr 0 0 0 0, .own 1 1 0 ((bytesL y1_r1).length)], eR5 (bytesL y1_r1)]⟩ ?_
              refine ak_bldStr (dst := some 66) (k' := (K14 11111110 1)) (st' := ⟨67, [(66, .s y1_r1)], [.gone, .gone]⟩) y1_r1 0 1 (.ptr 0 0 0 0) hP bldStr38 enters_38 h0 (by kernel_rfl) (by kernel_rfl) (by kernel_rfl) (by kernel_rfl) ?_
              refine goK hT 2 (K14 1111111 1) ⟨67, [(2, .s y1_r1)], [.gone, .gone]⟩ ?_
              obtain rfl := retC H
              exact ak_ret hf hX (av := .s y1_r1) (by kernel_rfl) [] (sel_of_eq (by kernel_rfl)) (by decide) (by rw [h0]; rfl) (by kernel_rfl) (fun _ h => all_nil h) (.d (.v _))
            rw [decide_eq_false c11]
            refine goK hT 14 (K14 111111010 1) ⟨67, [(1, .ptr 0 0 0 0), (3, .ptr 1 0 0 0), (47, .i a0.Kind), (48, .b (a0.Kind == 2))], [.box 26 (eC26 a0), .box 71 [.ptr 1 0 0 0, .own 2 1 0 ((bytesL x1_r2).length)], eR5 (bytesL x1_r2)]⟩ ?_
            by_cases c12 : a0.Kind = 2
            · replace H := sT c12 H
              rw [eqT c12]
              refine goK hT 1 (K14 1111110101 0) ⟨67, [(1, .ptr 0 0 0 0), (3, .ptr 1 0 0 0)], [.box 26 (eC26 a0), .box 71 [.ptr 1 0 0 0, .own 2 1 0 ((bytesL x1_r2).length)], eR5 (bytesL x1_r2)]⟩ ?_
              obtain ⟨v6, h13, H⟩ := sbC H
              refine drawK (hP ▸ mixed) 7 [1, 3] [some (.ptr 0 0 0 4), some (.ptr 0 0 0 4), some (.i a0.Over.Lo), some (.s v6), some (.ptr 0 0 0 4), some (.ptr 0 0 0 5), some (.i a0.Over.Hi)] (opG (opG (opG (opS (opG (opG (opG op0 hT) hT) hT) (fun R rest h => ak_callD (avs := [.i a0.Over.Lo]) (dst := some 53) hP enters_36 (vint_Num.says a0.Over.Lo h13) (by kernel_rfl) (.cons (pass_d _) .nil) (by kernel_rfl) h)) hT) hT) hT) ?_
              refine goK hT 0 (K14 11111101010 7) ⟨67, [(3, .ptr 1 0 0 0), (53, .s v6), (56, .i a0.Over.Hi)], [.box 26 (eC26 a0), .box 71 [.ptr 1 0 0 0, .own 2 1 0 ((bytesL x1_r2).length)], eR5 (bytesL x1_r2)]⟩ ?_
              obtain ⟨v7, h14, H⟩ := sbC H
              refine ak_callP (avs := [.i a0.Over.Hi]) (dst := some 57) (k' := (K14 11111101010 8)) [3, 53, 57] [] hP enters_36 (vint_Num.says a0.Over.Hi h14) (by kernel_rfl) (hands_none _) (.cons (pass_d _) .nil) (st' := ⟨67, [(3, .ptr 1 0 0 0), (53, .s v6), (57, .s v7)], [.box 26 (eC26 a0), .box 71 [.ptr 1 0 0 0, .own 2 1 0 ((bytesL x1_r2).length)], eR5 (bytesL x1_r2)]⟩) (by kernel_rfl) ?_
              obtain ⟨h15, H⟩ := sC H
              refine ak_cat v6 v7 (some 58) [3, 58] (k' := (K14 11111101010 9)) (by kernel_rfl) h15 (st' := ⟨67, [(3, .ptr 1 0 0 0), (58, .s (v6 ++ v7))], [.box 26 (eC26 a0), .box 71 [.ptr 1 0 0 0, .own 2 1 0 ((bytesL x1_r2).length)], eR5 (bytesL x1_r2)]⟩) (by kernel_rfl) ?_
              obtain ⟨h16, H⟩ := sC H
              refine ak_callP (avs := [.ptr 1 0 0 0, .s (v6 ++ v7)]) (dst := some 59) (k' := (K14 11111101010 10)) [3] [1, 2] hP enters_35 (bldWrite35 (.ptr 0 0 0 0) (.inr rfl) x1_r2 (v6 ++ v7) h16) (by kernel_rfl) (hands_two rfl rfl rfl rfl (by decide)) (.cons (.same (.ptr 0 0 0 0)) (.cons (pass_d _) .nil)) (st' := ⟨67, [(3, .ptr 1 0 0 0)], [.box 26 (eC26 a0), .box 71 [.ptr 1 0 0 0, .own 3 1 0 ((bytesL (x1_r2 ++ (v6 ++ v7))).length)], .gone, eR5 (bytesL (x1_r2 ++ (v6 ++ v7)))]⟩) (by kernel_rfl) ?_
              refine goK hT 2 (K14 111111 1) ⟨67, [(3, .ptr 1 0 0 0)], [.box 26 (eC26 a0), .box 71 [.ptr 1 0 0 0, .own 3 1 0 ((bytesL (x1_r2 ++ (v6 ++ v7))).length)], .gone, eR5 (bytesL (x1_r2 ++ (v6 ++ v7)))]⟩ ?_
              refine cutK [1, 3] ⟨67, [(3, .ptr 0 0 0 0)], [.box 71 [.ptr 0 0 0 0, .own 1 1 0 ((bytesL (x1_r2 ++ (v6 ++ v7))).length)], eR5 (bytesL (x1_r2 ++ (v6 ++ v7)))]⟩ h0 ?_
              exact Jj1 (x1_r2 ++ (v6 ++ v7)) H
            · replace H := sF c12 H
              rw [eqF c12]
              refine goK hT 6 (K14 11111101011 1) ⟨67, [(1, .ptr 0 0 0 0), (3, .ptr 1 0 0 0), (60, .b (a0.Kind == 4))], [.box 26 (eC26 a0), .box 71 [.ptr 1 0 0 0, .own 2 1 0 ((bytesL x1_r2).length)], eR5 (bytesL x1_r2)]⟩ ?_
              by_cases c17 : a0.Kind = 4
              · replace H := sT c17 H
                rw [eqT c17]
                refine goK hT 4 (K14 1111110101110 2) ⟨67, [(3, .ptr 1 0 0 0), (63, .i a0.Old)], [.box 26 (eC26 a0), .box 71 [.ptr 1 0 0 0, .own 2 1 0 ((bytesL x1_r2).length)], eR5 (bytesL x1_r2)]⟩ ?_
                obtain ⟨v8, h18, H⟩ := sbC H
                refine ak_callP (avs := [.i a0.Old]) (dst := some 64) (k' := (K14 1111110101110 3)) [3, 64] [] hP enters_37 (vint_Whole.says a0.Old h18) (by kernel_rfl) (hands_none _) (.cons (pass_d _) .nil) (st' := ⟨67, [(3, .ptr 1 0 0 0), (64, .s v8)], [.box 26 (eC26 a0), .box 71 [.ptr 1 0 0 0, .own 2 1 0 ((bytesL x1_r2).length)], eR5 (bytesL x1_r2)]⟩) (by kernel_rfl) ?_
                obtain ⟨h19, H⟩ := sC H
                refine ak_callP (avs := [.ptr 1 0 0 0, .s v8]) (dst := some 65) (k' := (K14 1111110101110 4)) [3] [1, 2] hP enters_35 (bldWrite35 (.ptr 0 0 0 0) (.inr rfl) x1_r2 v8 h19) (by kernel_rfl) (hands_two rfl rfl rfl rfl (by decide)) (.cons (.same (.ptr 0 0 0 0)) (.cons (pass_d _) .nil)) (st' := ⟨67, [(3, .ptr 1 0 0 0)], [.box 26 (eC26 a0), .box 71 [.ptr 1 0 0 0, .own 3 1 0 ((bytesL (x1_r2 ++ v8)).length)], .gone, eR5 (bytesL (x1_r2 ++ v8))]⟩) (by kernel_rfl) ?_
                refine goK hT 2 (K14 111111 1) ⟨67, [(3, .ptr 1 0 0 0)], [.box 26 (eC26 a0), .box 71 [.ptr 1 0 0 0, .own 3 1 0 ((bytesL (x1_r2 ++ v8)).length)], .gone, eR5 (bytesL (x1_r2 ++ v8))]⟩ ?_
                refine cutK [1, 3] ⟨67, [(3, .ptr 0 0 0 0)], [.box 71 [.ptr 0 0 0 0, .own 1 1 0 ((bytesL (x1_r2 ++ v8)).length)], eR5 (bytesL (x1_r2 ++ v8))]⟩ h0 ?_
                exact Jj1 (x1_r2 ++ v8) H
              · replace H := sF c17 H
                rw [eqF c17]
                refine goK hT 3 (K14 111111 1) ⟨67, [(3, .ptr 1 0 0 0)], [.box 26 (eC26 a0), .box 71 [.ptr 1 0 0 0, .own 2 1 0 ((bytesL x1_r2).length)], eR5 (bytesL x1_r2)]⟩ ?_
                refine cutK [1, 2] ⟨67, [(3, .ptr 0 0 0 0)], [.box 71 [.ptr 0 0 0 0, .own 1 1 0 ((bytesL x1_r2).length)], eR5 (bytesL x1_r2)]⟩ h0 ?_
                exact Jj1 x1_r2 H
    refine cutK [0, 1, 7] ⟨67, [(1, .ptr 0 0 0 0), (3, .ptr 1 0 0 0), (31, .d (eL67 true a0.Pairs)), (32, .i (a0.Pairs.length : Int)), (33, .i 0)], [.box 26 (eC26 a0), .box 71 [.ptr 1 0 0 0, .own 2 1 0 ((bytesL (((((⟨#[]⟩ : ByteArray) ++ v2) ++ v3) ++ v4) ++ v5)).length)], eR5 (bytesL (((((⟨#[]⟩ : ByteArray) ++ v2) ++ v3) ++ v4) ++ v5))]⟩ h0 ?_
    obtain ⟨n, H⟩ := loopC H
    exact (L n) 0 (((((⟨#[]⟩ : ByteArray) ++ v2) ++ v3) ++ v4) ++ v5) H
  · replace H := iF c2 H
    rw [boF c2]
    refine goK hT 5 (K14 11010 1) ⟨67, [(2, .s (⟨#[]⟩ : ByteArray))], [.box 26 (eC26 a0)]⟩ ?_
    obtain rfl := retC H
    exact ak_ret hf hX (av := .s (⟨#[]⟩ : ByteArray)) (by kernel_rfl) [] (sel_of_eq (by kernel_rfl)) (by decide) (by rw [h0]; rfl) (by kernel_rfl) (fun _ h => all_nil h) (.d (.v _))


theorem splicelaw04_awake.says {r : Bool} (H : splicelaw04_awake = some r) : Says Try.prog 13 [] [] [] (.b r) := by
  refine says_of Try.func13 rfl (nt := 24) rfl (Nat.le_of_ble_eq_true rfl) fun X hP h0 hX => ?_
  have hT : TabOk X.P T := hP ▸ tok
  have hf : X.P.funcs[13]? = some Try.f13 := hP ▸ Try.func13
  refine goK hT 10 (K13 110 4) ⟨24, [(5, .agg [.i 1, .i 1, .i 5, .own 0 2 0 2, .i 0, .i 0, .i 0])], [.flat false 2 67 2 (fun j => [[.i 9, .i 3], [.i 4, .i 3]].getD j [])]⟩ ?_
  refine ak_row 0 (kk := 2) (fz := false) (ty := 67) (n := ([(⟨9, 3⟩ : api_Pair), (⟨4, 3⟩ : api_Pair)] : List api_Pair).length) (vec api_Pair.e api_Pair.z ([(⟨9, 3⟩ : api_Pair), (⟨4, 3⟩ : api_Pair)] : List api_Pair)) (by kernel_rfl) vec_lit (st' := ⟨24, [(5, .agg [.i 1, .i 1, .i 5, .own 0 2 0 2, .i 0, .i 0, .i 0])], [eR67 ([(⟨9, 3⟩ : api_Pair), (⟨4, 3⟩ : api_Pair)] : List api_Pair)]⟩) (by kernel_rfl) ?_
  refine ak_freeze 0 (kk := 2) (n := ([(⟨9, 3⟩ : api_Pair), (⟨4, 3⟩ : api_Pair)] : List api_Pair).length) (ty := 67) (g := vec api_Pair.e api_Pair.z ([(⟨9, 3⟩ : api_Pair), (⟨4, 3⟩ : api_Pair)] : List api_Pair)) (by kernel_rfl) (st' := ⟨24, [(5, .agg [.i 1, .i 1, .i 5, .own 0 2 0 2, .i 0, .i 0, .i 0])], [eF67 ([(⟨9, 3⟩ : api_Pair), (⟨4, 3⟩ : api_Pair)] : List api_Pair)]⟩) (by kernel_rfl) ?_
  refine ak_sealS (av := .agg [.i 1, .i 1, .i 5, .own 0 2 0 2, .i 0, .i 0, .i 0]) (y := .agg [.i 1, .i 1, .i 5, eL67 true ([(⟨9, 3⟩ : api_Pair), (⟨4, 3⟩ : api_Pair)] : List api_Pair), .i 0, .i 0, .i 0]) [5] 5 (st' := ⟨24, [(5, .d (.agg [.i 1, .i 1, .i 5, eL67 true ([(⟨9, 3⟩ : api_Pair), (⟨4, 3⟩ : api_Pair)] : List api_Pair), .i 0, .i 0, .i 0]))], [eF67 ([(⟨9, 3⟩ : api_Pair), (⟨4, 3⟩ : api_Pair)] : List api_Pair)]⟩) (by kernel_rfl) (.agg (.cons (.d _) (.cons (.d _) (.cons (.d _) (.cons (.own (ty := 67) (k := 2) (by kernel_rfl)) (.cons (.d _) (.cons (.d _) (.cons (.d _) .nil)))))))) (by kernel_rfl) ?_
  obtain ⟨v1, h1, H⟩ := ibC H
  refine ak_callP (avs := [.d (.agg [.i 1, .i 1, .i 5, eL67 true ([(⟨9, 3⟩ : api_Pair), (⟨4, 3⟩ : api_Pair)] : List api_Pair), .i 0, .i 0, .i 0])]) (dst := some 6) (k' := (K13 110 5)) [6] [] hP enters_25 (mut_Touch.says (⟨1, 1, 5, ([(⟨9, 3⟩ : api_Pair), (⟨4, 3⟩ : api_Pair)] : List api_Pair), (⟨0, 0⟩ : api_Span), 0⟩ : api_Mut) h1) (by kernel_rfl) (hands_none _) (.cons (pass_d _) .nil) (st' := ⟨24, [(6, .d (eL24 true v1))], [eF67 ([(⟨9, 3⟩ : api_Pair), (⟨4, 3⟩ : api_Pair)] : List api_Pair)]⟩) (by kernel_rfl) ?_
  refine goK hT 7 (K13 1110 3) ⟨24, [(1, .d (eL24 true v1)), (9, .agg [.i 1, .i 2, .i 1, .own 1 2 0 1, .i 0, .i 0, .i 0])], [eF67 ([(⟨9, 3⟩ : api_Pair), (⟨4, 3⟩ : api_Pair)] : List api_Pair), .flat false 2 67 1 (fun j => [[.i 5, .i 7]].getD j [])]⟩ ?_
  refine ak_row 1 (kk := 2) (fz := false) (ty := 67) (n := ([(⟨5, 7⟩ : api_Pair)] : List api_Pair).length) (vec api_Pair.e api_Pair.z ([(⟨5, 7⟩ : api_Pair)] : List api_Pair)) (by kernel_rfl) vec_lit (st' := ⟨24, [(1, .d (eL24 true v1)), (9, .agg [.i 1, .i 2, .i 1, .own 1 2 0 1, .i 0, .i 0, .i 0])], [eF67 ([(⟨9, 3⟩ : api_Pair), (⟨4, 3⟩ : api_Pair)] : List api_Pair), eR67 ([(⟨5, 7⟩ : api_Pair)] : List api_Pair)]⟩) (by kernel_rfl) ?_
  refine ak_freeze 1 (kk := 2) (n := ([(⟨5, 7⟩ : api_Pair)] : List api_Pair).length) (ty := 67) (g := vec api_Pair.e api_Pair.z ([(⟨5, 7⟩ : api_Pair)] : List api_Pair)) (by kernel_rfl) (st' := ⟨24, [(1, .d (eL24 true v1)), (9, .agg [.i 1, .i 2, .i 1, .own 1 2 0 1, .i 0, .i 0, .i 0])], [eF67 ([(⟨9, 3⟩ : api_Pair), (⟨4, 3⟩ : api_Pair)] : List api_Pair), eF67 ([(⟨5, 7⟩ : api_Pair)] : List api_Pair)]⟩) (by kernel_rfl) ?_
  refine ak_sealS (av := .agg [.i 1, .i 2, .i 1, .own 1 2 0 1, .i 0, .i 0, .i 0]) (y := .agg [.i 1, .i 2, .i 1, eL67 true ([(⟨5, 7⟩ : api_Pair)] : List api_Pair), .i 0, .i 0, .i 0]) [1, 9] 9 (st' := ⟨24, [(1, .d (eL24 true v1)), (9, .d (.agg [.i 1, .i 2, .i 1, eL67 true ([(⟨5, 7⟩ : api_Pair)] : List api_Pair), .i 0, .i 0, .i 0]))], [eF67 ([(⟨9, 3⟩ : api_Pair), (⟨4, 3⟩ : api_Pair)] : List api_Pair), eF67 ([(⟨5, 7⟩ : api_Pair)] : List api_Pair)]⟩) (by kernel_rfl) (.agg (.cons (.d _) (.cons (.d _) (.cons (.d _) (.cons (.own (ty := 67) (k := 2) (by kernel_rfl)) (.cons (.d _) (.cons (.d _) (.cons (.d _) .nil)))))))) (by kernel_rfl) ?_
  obtain ⟨v2, h2, H⟩ := ibC H
  have Jj1 : ∀ (y1_0 : Bool), (splicelaw04_awake.j1 y1_0) = some r → AK X 13 ((K13 111 1)) (Back X [] (.b r)) ⟨24, [(0, .b y1_0)], []⟩ := by
    intro y1_0 H
    obtain rfl := retC H
    exact ak_ret hf hX (av := .b y1_0) (by kernel_rfl) [] (sel_of_eq (by kernel_rfl)) (by decide) (by rw [h0]; rfl) (by kernel_rfl) (fun _ h => all_nil h) (.d (.v _))
  refine ak_callP (avs := [.d (.agg [.i 1, .i 2, .i 1, eL67 true ([(⟨5, 7⟩ : api_Pair)] : List api_Pair), .i 0, .i 0, .i 0])]) (dst := some 10) (k' := (K13 1110 4)) [1, 10] [] hP enters_14 (mut_Text.says (⟨1, 2, 1, ([(⟨5, 7⟩ : api_Pair)] : List api_Pair), (⟨0, 0⟩ : api_Span), 0⟩ : api_Mut) h2) (by kernel_rfl) (hands_none _) (.cons (pass_d _) .nil) (st' := ⟨24, [(1, .d (eL24 true v1)), (10, .s v2)], [eF67 ([(⟨9, 3⟩ : api_Pair), (⟨4, 3⟩ : api_Pair)] : List api_Pair), eF67 ([(⟨5, 7⟩ : api_Pair)] : List api_Pair)]⟩) (by kernel_rfl) ?_
  refine goK hT 2 (K13 1110 6) ⟨24, [(1, .d (eL24 true v1)), (12, .b (v2.toList == (⟨#[1, 2, 1, 1, 5, 14]⟩ : ByteArray).toList))], [eF67 ([(⟨9, 3⟩ : api_Pair), (⟨4, 3⟩ : api_Pair)] : List api_Pair), eF67 ([(⟨5, 7⟩ : api_Pair)] : List api_Pair)]⟩ ?_
  by_cases c3 : (v2.toList == (⟨#[1, 2, 1, 1, 5, 14]⟩ : ByteArray).toList) = true
  · replace H := iT c3 H
    rw [c3]
    refine goK hT 5 (K13 1110 11) ⟨24, [(1, .d (eL24 true v1)), (17, .b ((v1.length : Int) == 2))], [eF67 ([(⟨9, 3⟩ : api_Pair), (⟨4, 3⟩ : api_Pair)] : List api_Pair), eF67 ([(⟨5, 7⟩ : api_Pair)] : List api_Pair)]⟩ ?_
    by_cases c4 : (v1.length : Int) = 2
    · replace H := iT c4 H
      rw [eqT c4]
      refine goK hT 1 (K13 1110 12) ⟨24, [(17, .b true), (18, .d (eL24 true v1))], [eF67 ([(⟨9, 3⟩ : api_Pair), (⟨4, 3⟩ : api_Pair)] : List api_Pair), eF67 ([(⟨5, 7⟩ : api_Pair)] : List api_Pair)]⟩ ?_
      obtain ⟨h5, H⟩ := iC H
      refine ak_idx hT [17, 19] (i := 1) (n := (v1.length : Int)) h5.1 h5.2 (k' := (K13 1110 13)) (st' := ⟨24, [(17, .b true), (19, .d (eP24 true v1 1 0))], [eF67 ([(⟨9, 3⟩ : api_Pair), (⟨4, 3⟩ : api_Pair)] : List api_Pair), eF67 ([(⟨5, 7⟩ : api_Pair)] : List api_Pair)]⟩) (by kernel_rfl) ?_
      refine goK hT 6 (K13 111 1) ⟨24, [(0, .b ((((v1.getD 1 api_Span.z).Lo) == 9) && (((v1.getD 1 api_Span.z).Hi) == 10)))], [eF67 ([(⟨9, 3⟩ : api_Pair), (⟨4, 3⟩ : api_Pair)] : List api_Pair), eF67 ([(⟨5, 7⟩ : api_Pair)] : List api_Pair)]⟩ ?_
      refine cutK [] ⟨24, [(0, .b ((((v1.getD 1 api_Span.z).Lo) == 9) && (((v1.getD 1 api_Span.z).Hi) == 10)))], []⟩ h0 ?_
      exact Jj1 ((((v1.getD 1 api_Span.z).Lo) == 9) && (((v1.getD 1 api_Span.z).Hi) == 10)) H
    · replace H := iF c4 H
      rw [eqF c4]
      refine goK hT 8 (K13 111 1) ⟨24, [(0, .b false)], [eF67 ([(⟨9, 3⟩ : api_Pair), (⟨4, 3⟩ : api_Pair)] : List api_Pair), eF67 ([(⟨5, 7⟩ : api_Pair)] : List api_Pair)]⟩ ?_
      refine cutK [] ⟨24, [(0, .b false)], []⟩ h0 ?_
      exact Jj1 false H
  · replace H := iF c3 H
    rw [boF c3]
    refine goK hT 13 (K13 111 1) ⟨24, [(0, .b false)], [eF67 ([(⟨9, 3⟩ : api_Pair), (⟨4, 3⟩ : api_Pair)] : List api_Pair), eF67 ([(⟨5, 7⟩ : api_Pair)] : List api_Pair)]⟩ ?_
    refine cutK [] ⟨24, [(0, .b false)], []⟩ h0 ?_
    exact Jj1 false H


theorem splicelaw04_Ref.says (a0 : api_Mut) {r : spliceref04_Mut} (H : splicelaw04_Ref a0 = some r) : Says Try.prog 16 [] [.d (eG26 a0)] [] (.d (eG34 r)) := by
  refine says_of Try.func16 rfl (nt := 34) rfl (Nat.le_of_ble_eq_true rfl) fun X hP h0 hX => ?_
  have hT : TabOk X.P T := hP ▸ tok
  have hf : X.P.funcs[16]? = some Try.f16 := hP ▸ Try.func16
  refine goK hT 28 (K16 111010 0) ⟨34, [(1, .ptr 0 0 0 0), (2, .ptr 1 0 0 0), (3, .ptr 2 0 0 0), (4, .i 0)], [.box 26 (eC26 a0), .box 34 [.i 0, .i 0, .i 0, .ns, .i 0, .i 0, .i 0], .box 34 [.i a0.Client, .i a0.Seq, .i a0.Kind, .ns, .i a0.Over.Lo, .i a0.Over.Hi, .i a0.Old]]⟩ ?_
  refine ak_nilBox (tb := 34) (cs := [.i a0.Client, .i a0.Seq, .i a0.Kind, .ns, .i a0.Over.Lo, .i a0.Over.Hi, .i a0.Old]) 2 3 2 79 (vec spliceref04_Pair.e spliceref04_Pair.z []) (st' := ⟨34, [(1, .ptr 0 0 0 0), (2, .ptr 1 0 0 0), (3, .ptr 2 0 0 0), (4, .i 0)], [.box 26 (eC26 a0), .box 34 [.i 0, .i 0, .i 0, .ns, .i 0, .i 0, .i 0], .box 34 [.i a0.Client, .i a0.Seq, .i a0.Kind, .own 3 2 0 0, .i a0.Over.Lo, .i a0.Over.Hi, .i a0.Old], eR79 ([] : List spliceref04_Pair)]⟩) (by kernel_rfl) (by kernel_rfl) ?_
  have L : ∀ n, (∀ (x1_4 : Int) (x1_r3 : List spliceref04_Pair), iter (splicelaw04_Ref.step a0) n (.l1 x1_4 x1_r3) = some r → AK X 16 ((K16 111010 0)) (Back X [] (.d (eG34 r))) ⟨34, [(1, .ptr 0 0 0 0), (2, .ptr 1 0 0 0), (3, .ptr 2 0 0 0), (4, .i x1_4)], [.box 26 (eC26 a0), .box 34 [.i 0, .i 0, .i 0, .ns, .i 0, .i 0, .i 0], .box 34 [.i a0.Client, .i a0.Seq, .i a0.Kind, .own 3 2 0 x1_r3.length, .i a0.Over.Lo, .i a0.Over.Hi, .i a0.Old], eR79 x1_r3]⟩) := by
    intro n
    induction n with
    | zero => exact fun _ _ H => iter0 H
    | succ n ih =>
      · intro x1_4 x1_r3 H
        refine goK hT 9 (K16 11101000 1) ⟨34, [(1, .ptr 0 0 0 0), (2, .ptr 1 0 0 0), (3, .ptr 2 0 0 0), (4, .i x1_4), (20, .b (decide (x1_4 < (a0.Pairs.length : Int))))], [.box 26 (eC26 a0), .box 34 [.i 0, .i 0, .i 0, .ns, .i 0, .i 0, .i 0], .box 34 [.i a0.Client, .i a0.Seq, .i a0.Kind, .own 3 2 0 x1_r3.length, .i a0.Over.Lo, .i a0.Over.Hi, .i a0.Old], eR79 x1_r3]⟩ ?_
        by_cases c1 : x1_4 < (a0.Pairs.length : Int)
        · replace H := sT c1 H
          rw [decide_eq_true c1]
          refine goK hT 2 (K16 1110100 1) ⟨34, [(1, .ptr 0 0 0 0), (2, .ptr 1 0 0 0), (3, .ptr 2 0 0 0), (4, .i x1_4)], [.box 26 (eC26 a0), .box 34 [.i 0, .i 0, .i 0, .ns, .i 0, .i 0, .i 0], .box 34 [.i a0.Client, .i a0.Seq, .i a0.Kind, .own 3 2 0 x1_r3.length, .i a0.Over.Lo, .i a0.Over.Hi, .i a0.Old], eR79 x1_r3]⟩ ?_
          refine goK hT 2 (K16 111010010 0) ⟨34, [(1, .ptr 0 0 0 0), (2, .ptr 1 0 0 0), (3, .ptr 2 0 0 0), (4, .i x1_4)], [.box 26 (eC26 a0), .box 34 [.i 0, .i 0, .i 0, .ns, .i 0, .i 0, .i 0], .box 34 [.i a0.Client, .i a0.Seq, .i a0.Kind, .own 3 2 0 x1_r3.length, .i a0.Over.Lo, .i a0.Over.Hi, .i a0.Old], eR79 x1_r3]⟩ ?_
          obtain ⟨h2, H⟩ := sC H
          refine ak_drawAtE (nt := 34) (hP ▸ mixed) 8 [7] [1, 2, 3, 4] [(1, .ptr 0 0 0 0), (2, .ptr 1 0 0 0), (3, .ptr 2 0 0 0), (4, .i x1_4)] [some (.ptr 2 0 0 3), some (.own 3 2 0 x1_r3.length), some (.ptr 0 0 0 3), some (.d (eL67 true a0.Pairs)), some (.i x1_4), some (.d (eP67 true a0.Pairs x1_4.toNat 0)), some (.d (eG67 (a0.Pairs.getD x1_4.toNat api_Pair.z))), some (.own 4 2 0 1)] [[.box 26 (eC26 a0), .box 34 [.i 0, .i 0, .i 0, .ns, .i 0, .i 0, .i 0], .box 34 [.i a0.Client, .i a0.Seq, .i a0.Kind, .own 3 2 0 x1_r3.length, .i a0.Over.Lo, .i a0.Over.Hi, .i a0.Old], eR79 x1_r3], [.box 26 (eC26 a0), .box 34 [.i 0, .i 0, .i 0, .ns, .i 0, .i 0, .i 0], .box 34 [.i a0.Client, .i a0.Seq, .i a0.Kind, .own 3 2 0 x1_r3.length, .i a0.Over.Lo, .i a0.Over.Hi, .i a0.Old], eR79 x1_r3, .flat false 2 79 1 (fun j => [api_Pair.e (a0.Pairs.getD x1_4.toNat api_Pair.z)].getD j [])]] (by kernel_rfl) (by kernel_rfl) (by kernel_rfl) (by kernel_rfl) ⟨(opXE (opGE (opES (opGE (opGE (opGE (opGE (opGE opE0 hT) hT) hT) hT) hT) (fun R rest h => ak_idx0 hT (i := x1_4) (n := (a0.Pairs.length : Int)) h2.1 h2.2 (by kernel_rfl) h)) hT)), (op_goFK hT), (opXE (opGE (opES (opGE (opGE (opGE (opGE (opGE opE0 hT) hT) hT) hT) hT) (fun R rest h => ak_idx0 hT (i := x1_4) (n := (a0.Pairs.length : Int)) h2.1 h2.2 (by kernel_rfl) h)) hT))⟩ ?_
          refine goK hT 0 (K16 1110100100 8) ⟨34, [(1, .ptr 0 0 0 0), (2, .ptr 1 0 0 0), (3, .ptr 2 0 0 0), (4, .i x1_4), (24, .own 3 2 0 x1_r3.length), (30, .own 4 2 0 1)], [.box 26 (eC26 a0), .box 34 [.i 0, .i 0, .i 0, .ns, .i 0, .i 0, .i 0], .box 34 [.i a0.Client, .i a0.Seq, .i a0.Kind, .own 3 2 0 x1_r3.length, .i a0.Over.Lo, .i a0.Over.Hi, .i a0.Old], eR79 x1_r3, .flat false 2 79 1 (fun j => [api_Pair.e (a0.Pairs.getD x1_4.toNat api_Pair.z)].getD j [])]⟩ ?_
          obtain ⟨h3, H⟩ := sC H
          refine ak_append1 (id := 3) (kk := 2) (by' := 16) (t := 31) (e := 79) (z := [.int .i64 0, .int .i64 0]) (dst := some 31) (id2 := 4) (e2 := 79) (fz := false) (k' := (K16 1110100100 9)) hT spliceref04_Pair.e spliceref04_Pair.z x1_r3 (⟨(a0.Pairs.getD x1_4.toNat api_Pair.z).Key, (a0.Pairs.getD x1_4.toNat api_Pair.z).Val⟩ : spliceref04_Pair) [1, 2, 3, 4, 31] (by kernel_rfl) (by kernel_rfl) (by kernel_rfl) (by kernel_rfl) (by kernel_rfl) (by kernel_rfl) (by kernel_rfl) h3 (by omega) (st' := ⟨34, [(1, .ptr 0 0 0 0), (2, .ptr 1 0 0 0), (3, .ptr 2 0 0 0), (4, .i x1_4), (31, .own 5 2 0 ((x1_r3 ++ [(⟨(a0.Pairs.getD x1_4.toNat api_Pair.z).Key, (a0.Pairs.getD x1_4.toNat api_Pair.z).Val⟩ : spliceref04_Pair)]).length))], [.box 26 (eC26 a0), .box 34 [.i 0, .i 0, .i 0, .ns, .i 0, .i 0, .i 0], .box 34 [.i a0.Client, .i a0.Seq, .i a0.Kind, .own 3 2 0 x1_r3.length, .i a0.Over.Lo, .i a0.Over.Hi, .i a0.Old], .gone, .flat false 2 79 1 (fun j => [api_Pair.e (a0.Pairs.getD x1_4.toNat api_Pair.z)].getD j []), eR79 (x1_r3 ++ [(⟨(a0.Pairs.getD x1_4.toNat api_Pair.z).Key, (a0.Pairs.getD x1_4.toNat api_Pair.z).Val⟩ : spliceref04_Pair)])]⟩) (by kernel_rfl) ?_
          refine goK hT 10 (K16 111010 0) ⟨34, [(1, .ptr 0 0 0 0), (2, .ptr 1 0 0 0), (3, .ptr 2 0 0 0), (4, .i (IntKind.wrap .i64 (x1_4 + 1)))], [.box 26 (eC26 a0), .box 34 [.i 0, .i 0, .i 0, .ns, .i 0, .i 0, .i 0], .box 34 [.i a0.Client, .i a0.Seq, .i a0.Kind, .own 5 2 0 ((x1_r3 ++ [(⟨(a0.Pairs.getD x1_4.toNat api_Pair.z).Key, (a0.Pairs.getD x1_4.toNat api_Pair.z).Val⟩ : spliceref04_Pair)]).length), .i a0.Over.Lo, .i a0.Over.Hi, .i a0.Old], .gone, .flat false 2 79 1 (fun j => [api_Pair.e (a0.Pairs.getD x1_4.toNat api_Pair.z)].getD j []), eR79 (x1_r3 ++ [(⟨(a0.Pairs.getD x1_4.toNat api_Pair.z).Key, (a0.Pairs.getD x1_4.toNat api_Pair.z).Val⟩ : spliceref04_Pair)])]⟩ ?_
          refine cutK [0, 1, 2, 5] ⟨34, [(1, .ptr 0 0 0 0), (2, .ptr 1 0 0 0), (3, .ptr 2 0 0 0), (4, .i (IntKind.wrap .i64 (x1_4 + 1)))], [.box 26 (eC26 a0), .box 34 [.i 0, .i 0, .i 0, .ns, .i 0, .i 0, .i 0], .box 34 [.i a0.Client, .i a0.Seq, .i a0.Kind, .own 3 2 0 (x1_r3 ++ [(⟨(a0.Pairs.getD x1_4.toNat api_Pair.z).Key, (a0.Pairs.getD x1_4.toNat api_Pair.z).Val⟩ : spliceref04_Pair)]).length, .i a0.Over.Lo, .i a0.Over.Hi, .i a0.Old], eR79 (x1_r3 ++ [(⟨(a0.Pairs.getD x1_4.toNat api_Pair.z).Key, (a0.Pairs.getD x1_4.toNat api_Pair.z).Val⟩ : spliceref04_Pair)])]⟩ h0 ?_
          exact ih (IntKind.wrap .i64 (x1_4 + 1)) (x1_r3 ++ [(⟨(a0.Pairs.getD x1_4.toNat api_Pair.z).Key, (a0.Pairs.getD x1_4.toNat api_Pair.z).Val⟩ : spliceref04_Pair)]) H
        · replace H := sF c1 H
          rw [decide_eq_false c1]
          refine goK hT 5 (K16 11110 1) ⟨34, [(2, .ptr 1 0 0 0), (33, .agg [.i a0.Client, .i a0.Seq, .i a0.Kind, .own 3 2 0 x1_r3.length, .i a0.Over.Lo, .i a0.Over.Hi, .i a0.Old])], [.box 26 (eC26 a0), .box 34 [.i 0, .i 0, .i 0, .ns, .i 0, .i 0, .i 0], .box 34 [.i a0.Client, .i a0.Seq, .i a0.Kind, .own 3 2 0 x1_r3.length, .i a0.Over.Lo, .i a0.Over.Hi, .i a0.Old], eR79 x1_r3]⟩ ?_
          refine ak_freeze 3 (kk := 2) (n := x1_r3.length) (ty := 79) (g := vec spliceref04_Pair.e spliceref04_Pair.z x1_r3) (by kernel_rfl) (st' := ⟨34, [(2, .ptr 1 0 0 0), (33, .agg [.i a0.Client, .i a0.Seq, .i a0.Kind, .own 3 2 0 x1_r3.length, .i a0.Over.Lo, .i a0.Over.Hi, .i a0.Old])], [.box 26 (eC26 a0), .box 34 [.i 0, .i 0, .i 0, .ns, .i 0, .i 0, .i 0], .box 34 [.i a0.Client, .i a0.Seq, .i a0.Kind, .own 3 2 0 x1_r3.length, .i a0.Over.Lo, .i a0.Over.Hi, .i a0.Old], eF79 x1_r3]⟩) (by kernel_rfl) ?_
          refine ak_sealS (av := .agg [.i a0.Client, .i a0.Seq, .i a0.Kind, .own 3 2 0 x1_r3.length, .i a0.Over.Lo, .i a0.Over.Hi, .i a0.Old]) (y := .agg [.i a0.Client, .i a0.Seq, .i a0.Kind, eL79 true x1_r3, .i a0.Over.Lo, .i a0.Over.Hi, .i a0.Old]) [2, 33] 33 (st' := ⟨34, [(2, .ptr 1 0 0 0), (33, .d (.agg [.i a0.Client, .i a0.Seq, .i a0.Kind, eL79 true x1_r3, .i a0.Over.Lo, .i a0.Over.Hi, .i a0.Old]))], [.box 26 (eC26 a0), .box 34 [.i 0, .i 0, .i 0, .ns, .i 0, .i 0, .i 0], .box 34 [.i a0.Client, .i a0.Seq, .i a0.Kind, .own 3 2 0 x1_r3.length, .i a0.Over.Lo, .i a0.Over.Hi, .i a0.Old], eF79 x1_r3]⟩) (by kernel_rfl) (.agg (.cons (.d _) (.cons (.d _) (.cons (.d _) (.cons (.own (ty := 79) (k := 2) (by kernel_rfl)) (.cons (.d _) (.cons (.d _) (.cons (.d _) .nil)))))))) (by kernel_rfl) ?_
          refine goK hT 2 (K16 1111 1) ⟨34, [(2, .ptr 1 0 0 0)], [.box 26 (eC26 a0), .box 34 [.i a0.Client, .i a0.Seq, .i a0.Kind, .d (eL79 true x1_r3), .i a0.Over.Lo, .i a0.Over.Hi, .i a0.Old], .box 34 [.i a0.Client, .i a0.Seq, .i a0.Kind, .own 3 2 0 x1_r3.length, .i a0.Over.Lo, .i a0.Over.Hi, .i a0.Old], eF79 x1_r3]⟩ ?_
          obtain rfl := retC H
          exact ak_retM hT hf hX (av := .d (.agg [.i a0.Client, .i a0.Seq, .i a0.Kind, eL79 true x1_r3, .i a0.Over.Lo, .i a0.Over.Hi, .i a0.Old])) (by kernel_rfl) [] (sel_of_eq (by kernel_rfl)) (by decide) (by rw [h0]; rfl) (by kernel_rfl) (fun _ h => all_nil h) (.d (.agg (spliceref04_Mut.nl _)))
  refine cutK [0, 1, 2, 3] ⟨34, [(1, .ptr 0 0 0 0), (2, .ptr 1 0 0 0), (3, .ptr 2 0 0 0), (4, .i 0)], [.box 26 (eC26 a0), .box 34 [.i 0, .i 0, .i 0, .ns, .i 0, .i 0, .i 0], .box 34 [.i a0.Client, .i a0.Seq, .i a0.Kind, .own 3 2 0 ([] : List spliceref04_Pair).length, .i a0.Over.Lo, .i a0.Over.Hi, .i a0.Old], eR79 ([] : List spliceref04_Pair)]⟩ h0 ?_
  obtain ⟨n, H⟩ := loopC H
  exact (L n) 0 ([] : List spliceref04_Pair) H


theorem spliceref03_One.says (a0 : spliceref03_Span) : Says Try.prog 41 [] [.d (eG32 a0)] [] (.b (spliceref03_One a0)) := by
  obtain ⟨r, H⟩ : ∃ r, spliceref03_One a0 = r := ⟨_, rfl⟩
  rw [H]
  refine says_of Try.func41 rfl (nt := 18) rfl (Nat.le_of_ble_eq_true rfl) fun X hP h0 hX => ?_
  have hT : TabOk X.P T := hP ▸ tok
  have hf : X.P.funcs[41]? = some Try.f41 := hP ▸ Try.func41
  have Jj1 : ∀ (y1_2 : Bool), (spliceref03_One.j1 y1_2) = r → AK X 41 ((K41 11 1)) (Back X [] (.b r)) ⟨18, [(2, .b y1_2)], []⟩ := by
    intro y1_2 H
    obtain rfl := H
    exact ak_ret hf hX (av := .b y1_2) (by kernel_rfl) [] (sel_of_eq (by kernel_rfl)) (by decide) (by rw [h0]; rfl) (by kernel_rfl) (fun _ h => all_nil h) (.d (.v _))
  refine goK hT 11 (K41 110 4) ⟨18, [(1, .ptr 0 0 0 0), (6, .b (decide (a0.Lo ≥ 0)))], [.box 32 (eC32 a0)]⟩ ?_
  by_cases c1 : a0.Lo ≥ 0
  · replace H := iT c1 H
    rw [decide_eq_true c1]
    refine goK hT 7 (K41 110 11) ⟨18, [(1, .ptr 0 0 0 0), (13, .b (decide (a0.Lo < a0.Hi)))], [.box 32 (eC32 a0)]⟩ ?_
    by_cases c2 : a0.Lo < a0.Hi
    · replace H := iT c2 H
      rw [decide_eq_true c2]
      refine goK hT 6 (K41 11 1) ⟨18, [(2, .b (decide (a0.Hi ≤ 4096)))], [.box 32 (eC32 a0)]⟩ ?_
      refine cutK [] ⟨18, [(2, .b (decide (a0.Hi ≤ 4096)))], []⟩ h0 ?_
      exact Jj1 (decide (a0.Hi ≤ 4096)) H
    · replace H := iF c2 H
      rw [decide_eq_false c2]
      refine goK hT 6 (K41 11 1) ⟨18, [(2, .b false)], [.box 32 (eC32 a0)]⟩ ?_
      refine cutK [] ⟨18, [(2, .b false)], []⟩ h0 ?_
      exact Jj1 false H
  · replace H := iF c1 H
    rw [decide_eq_false c1]
    refine goK hT 13 (K41 11 1) ⟨18, [(2, .b false)], [.box 32 (eC32 a0)]⟩ ?_
    refine cutK [] ⟨18, [(2, .b false)], []⟩ h0 ?_
    exact Jj1 false H


theorem spliceref04_value.says (a0 : Int) : Says Try.prog 43 [] [.i a0] [] (.b (spliceref04_value a0)) := by
  obtain ⟨r, H⟩ : ∃ r, spliceref04_value a0 = r := ⟨_, rfl⟩
  rw [H]
  refine says_of Try.func43 rfl (nt := 9) rfl (Nat.le_of_ble_eq_true rfl) fun X hP h0 hX => ?_
  have hT : TabOk X.P T := hP ▸ tok
  have hf : X.P.funcs[43]? = some Try.f43 := hP ▸ Try.func43
  have Jj1 : ∀ (y1_2 : Bool), (spliceref04_value.j1 y1_2) = r → AK X 43 ((K43 11 1)) (Back X [] (.b r)) ⟨9, [(2, .b y1_2)], []⟩ := by
    intro y1_2 H
    obtain rfl := H
    exact ak_ret hf hX (av := .b y1_2) (by kernel_rfl) [] (sel_of_eq (by kernel_rfl)) (by decide) (by rw [h0]; rfl) (by kernel_rfl) (fun _ h => all_nil h) (.d (.v _))
  refine goK hT 9 (K43 110 3) ⟨9, [(0, .i a0), (5, .b (decide (a0 ≥ (-1099511627776))))], []⟩ ?_
  by_cases c1 : a0 ≥ (-1099511627776)
  · replace H := iT c1 H
    rw [decide_eq_true c1]
    refine goK hT 5 (K43 11 1) ⟨9, [(2, .b (decide (a0 ≤ 1099511627776)))], []⟩ ?_
    refine cutK [] ⟨9, [(2, .b (decide (a0 ≤ 1099511627776)))], []⟩ h0 ?_
    exact Jj1 (decide (a0 ≤ 1099511627776)) H
  · replace H := iF c1 H
    rw [decide_eq_false c1]
    refine goK hT 5 (K43 11 1) ⟨9, [(2, .b false)], []⟩ ?_
    refine cutK [] ⟨9, [(2, .b false)], []⟩ h0 ?_
    exact Jj1 false H


theorem spliceref04_pairs.says {t0 : Bool} (a0 : List spliceref04_Pair) (a1 : Int) (a2 : Int) {r : Bool} (H : spliceref04_pairs a0 a1 a2 = some r) : Says Try.prog 42 [] [.d (eL79 t0 a0), .i a1, .i a2] [] (.b r) := by
  refine says_of Try.func42 rfl (nt := 47) rfl (Nat.le_of_ble_eq_true rfl) fun X hP h0 hX => ?_
  have hT : TabOk X.P T := hP ▸ tok
  have hf : X.P.funcs[42]? = some Try.f42 := hP ▸ Try.func42
  have Jj1 : ∀ (y1_17 : Bool), (spliceref04_pairs.j1 a0 y1_17) = some r → AK X 42 ((K42 110 1)) (Back X [] (.b r)) ⟨47, [(0, .d (eL79 t0 a0)), (17, .b y1_17)], []⟩ := by
    intro y1_17 H
    by_cases c2 : y1_17 = true
    · replace H := iT c2 H
      rw [c2]
      refine goK hT 5 (K42 11010 1) ⟨47, [(6, .b false)], []⟩ ?_
      obtain rfl := retC H
      exact ak_ret hf hX (av := .b false) (by kernel_rfl) [] (sel_of_eq (by kernel_rfl)) (by decide) (by rw [h0]; rfl) (by kernel_rfl) (fun _ h => all_nil h) (.d (.v _))
    · replace H := iF c2 H
      rw [boF c2]
      refine goK hT 2 (K42 11 1) ⟨47, [(0, .d (eL79 t0 a0))], []⟩ ?_
      refine goK hT 7 (K42 111010 0) ⟨47, [(0, .d (eL79 t0 a0)), (7, .i 0)], []⟩ ?_
      have L : ∀ n, (∀ (x1_7 : Int), iter (spliceref04_pairs.step a0) n (.l1 x1_7) = some r → AK X 42 ((K42 111010 0)) (Back X [] (.b r)) ⟨47, [(0, .d (eL79 t0 a0)), (7, .i x1_7)], []⟩) := by
        intro n
        induction n with
        | zero => exact fun _ H => iter0 H
        | succ n ih =>
          · intro x1_7 H
            refine goK hT 8 (K42 11101000 1) ⟨47, [(0, .d (eL79 t0 a0)), (7, .i x1_7), (21, .b (decide (x1_7 < (a0.length : Int))))], []⟩ ?_
            by_cases c3 : x1_7 < (a0.length : Int)
            · replace H := sT c3 H
              rw [decide_eq_true c3]
              refine goK hT 2 (K42 1110100 1) ⟨47, [(0, .d (eL79 t0 a0)), (7, .i x1_7)], []⟩ ?_
              refine goK hT 6 (K42 11101001000 2) ⟨47, [(0, .d (eL79 t0 a0)), (7, .i x1_7), (24, .d (eL79 t0 a0)), (25, .i x1_7)], []⟩ ?_
              obtain ⟨h4, H⟩ := sC H
              have Jj2 : ∀ (y2_46 : Bool), stk (spliceref04_pairs.j2 x1_7 y2_46) (iter (spliceref04_pairs.step a0) n) = some r → AK X 42 ((K42 1110100100 1)) (Back X [] (.b r)) ⟨47, [(0, .d (eL79 t0 a0)), (7, .i x1_7), (46, .b y2_46)], []⟩ := by
                intro y2_46 H
                by_cases c7 : y2_46 = true
                · replace H := sT c7 H
                  rw [c7]
                  refine goK hT 5 (K42 111010010010 1) ⟨47, [(6, .b false)], []⟩ ?_
                  obtain rfl := retC H
                  exact ak_ret hf hX (av := .b false) (by kernel_rfl) [] (sel_of_eq (by kernel_rfl)) (by decide) (by rw [h0]; rfl) (by kernel_rfl) (fun _ h => all_nil h) (.d (.v _))
                · replace H := sF c7 H
                  rw [boF c7]
                  refine goK hT 3 (K42 11101001 1) ⟨47, [(0, .d (eL79 t0 a0)), (7, .i x1_7)], []⟩ ?_
                  refine goK hT 6 (K42 111010 0) ⟨47, [(0, .d (eL79 t0 a0)), (7, .i (IntKind.wrap .i64 (x1_7 + 1)))], []⟩ ?_
                  refine cutK [] ⟨47, [(0, .d (eL79 t0 a0)), (7, .i (IntKind.wrap .i64 (x1_7 + 1)))], []⟩ h0 ?_
                  exact ih (IntKind.wrap .i64 (x1_7 + 1)) H
              refine ak_idx hT [0, 7, 26] (i := x1_7) (n := (a0.length : Int)) h4.1 h4.2 (k' := (K42 11101001000 3)) (st' := ⟨47, [(0, .d (eL79 t0 a0)), (7, .i x1_7), (26, .d (eP79 t0 a0 x1_7.toNat 0))], []⟩) (by kernel_rfl) ?_
              refine goK hT 4 (K42 11101001000 7) ⟨47, [(0, .d (eL79 t0 a0)), (7, .i x1_7), (30, .b (decide (((a0.getD x1_7.toNat spliceref04_Pair.z).Key) < 0)))], []⟩ ?_
              by_cases c5 : ((a0.getD x1_7.toNat spliceref04_Pair.z).Key) < 0
              · replace H := sT c5 H
                rw [decide_eq_true c5]
                refine goK hT 17 (K42 1110100100 1) ⟨47, [(0, .d (eL79 t0 a0)), (7, .i x1_7), (46, .b true)], []⟩ ?_
                refine cutK [] ⟨47, [(0, .d (eL79 t0 a0)), (7, .i x1_7), (46, .b true)], []⟩ h0 ?_
                exact Jj2 true H
              · replace H := sF c5 H
                rw [decide_eq_false c5]
                refine goK hT 2 (K42 11101001000 9) ⟨47, [(0, .d (eL79 t0 a0)), (7, .i x1_7), (30, .b false), (31, .d (eL79 t0 a0)), (32, .i x1_7)], []⟩ ?_
                refine ak_idx hT [0, 7, 30, 33] (i := x1_7) (n := (a0.length : Int)) h4.1 h4.2 (k' := (K42 11101001000 10)) (st' := ⟨47, [(0, .d (eL79 t0 a0)), (7, .i x1_7), (30, .b false), (33, .d (eP79 t0 a0 x1_7.toNat 0))], []⟩) (by kernel_rfl) ?_
                refine goK hT 5 (K42 11101001000 15) ⟨47, [(0, .d (eL79 t0 a0)), (7, .i x1_7), (38, .b (decide (((a0.getD x1_7.toNat spliceref04_Pair.z).Key) > 4095)))], []⟩ ?_
                by_cases c6 : ((a0.getD x1_7.toNat spliceref04_Pair.z).Key) > 4095
                · replace H := sT c6 H
                  rw [decide_eq_true c6]
                  refine goK hT 9 (K42 1110100100 1) ⟨47, [(0, .d (eL79 t0 a0)), (7, .i x1_7), (46, .b true)], []⟩ ?_
                  refine cutK [] ⟨47, [(0, .d (eL79 t0 a0)), (7, .i x1_7), (46, .b true)], []⟩ h0 ?_
                  exact Jj2 true H
                · replace H := sF c6 H
                  rw [decide_eq_false c6]
                  refine goK hT 2 (K42 11101001000 17) ⟨47, [(0, .d (eL79 t0 a0)), (7, .i x1_7), (38, .b false), (39, .d (eL79 t0 a0)), (40, .i x1_7)], []⟩ ?_
                  refine ak_idx hT [0, 7, 38, 41] (i := x1_7) (n := (a0.length : Int)) h4.1 h4.2 (k' := (K42 11101001000 18)) (st' := ⟨47, [(0, .d (eL79 t0 a0)), (7, .i x1_7), (38, .b false), (41, .d (eP79 t0 a0 x1_7.toNat 0))], []⟩) (by kernel_rfl) ?_
                  refine goK hT 2 (K42 11101001000 20) ⟨47, [(0, .d (eL79 t0 a0)), (7, .i x1_7), (38, .b false), (43, .i ((a0.getD x1_7.toNat spliceref04_Pair.z).Val))], []⟩ ?_
                  refine ak_callP (avs := [.i ((a0.getD x1_7.toNat spliceref04_Pair.z).Val)]) (dst := some 44) (k' := (K42 11101001000 21)) [0, 7, 38, 44] [] hP enters_43 (spliceref04_value.says ((a0.getD x1_7.toNat spliceref04_Pair.z).Val)) (by kernel_rfl) (hands_none _) (.cons (pass_d _) .nil) (st' := ⟨47, [(0, .d (eL79 t0 a0)), (7, .i x1_7), (38, .b false), (44, .b (spliceref04_value ((a0.getD x1_7.toNat spliceref04_Pair.z).Val)))], []⟩) (by kernel_rfl) ?_
                  refine goK hT 3 (K42 1110100100 1) ⟨47, [(0, .d (eL79 t0 a0)), (7, .i x1_7), (46, .b (!(spliceref04_value ((a0.getD x1_7.toNat spliceref04_Pair.z).Val))))], []⟩ ?_
                  refine cutK [] ⟨47, [(0, .d (eL79 t0 a0)), (7, .i x1_7), (46, .b (!(spliceref04_value ((a0.getD x1_7.toNat spliceref04_Pair.z).Val))))], []⟩ h0 ?_
                  exact Jj2 (!(spliceref04_value ((a0.getD x1_7.toNat spliceref04_Pair.z).Val))) H
            · replace H := sF c3 H
              rw [decide_eq_false c3]
              refine goK hT 6 (K42 1111 1) ⟨47, [(6, .b true)], []⟩ ?_
              obtain rfl := retC H
              exact ak_ret hf hX (av := .b true) (by kernel_rfl) [] (sel_of_eq (by kernel_rfl)) (by decide) (by rw [h0]; rfl) (by kernel_rfl) (fun _ h => all_nil h) (.d (.v _))
      refine cutK [] ⟨47, [(0, .d (eL79 t0 a0)), (7, .i 0)], []⟩ h0 ?_
      obtain ⟨n, H⟩ := loopC H
      exact (L n) 0 H
  refine goK hT 12 (K42 1100 5) ⟨47, [(0, .d (eL79 t0 a0)), (2, .i a2), (12, .b (decide ((a0.length : Int) < a1)))], []⟩ ?_
  by_cases c1 : (a0.length : Int) < a1
  · replace H := iT c1 H
    rw [decide_eq_true c1]
    refine goK hT 6 (K42 110 1) ⟨47, [(0, .d (eL79 t0 a0)), (17, .b true)], []⟩ ?_
    refine cutK [] ⟨47, [(0, .d (eL79 t0 a0)), (17, .b true)], []⟩ h0 ?_
    exact Jj1 true H
  · replace H := iF c1 H
    rw [decide_eq_false c1]
    refine goK hT 6 (K42 110 1) ⟨47, [(0, .d (eL79 t0 a0)), (17, .b (decide ((a0.length : Int) > a2)))], []⟩ ?_
    refine cutK [] ⟨47, [(0, .d (eL79 t0 a0)), (17, .b (decide ((a0.length : Int) > a2)))], []⟩ h0 ?_
    exact Jj1 (decide ((a0.length : Int) > a2)) H


theorem spliceref04_Check.says (a0 : spliceref04_Mut) {r : Bool} (H : spliceref04_Check a0 = some r) : Says Try.prog 17 [] [.d (eG34 a0)] [] (.b r) := by
  refine says_of Try.func17 rfl (nt := 143) rfl (Nat.le_of_ble_eq_true rfl) fun X hP h0 hX => ?_
  have hT : TabOk X.P T := hP ▸ tok
  have hf : X.P.funcs[17]? = some Try.f17 := hP ▸ Try.func17
  have Jj1 : ∀ (y1_21 : Bool), (spliceref04_Check.j1 a0 y1_21) = some r → AK X 17 ((K17 110 1)) (Back X [] (.b r)) ⟨143, [(1, .ptr 0 0 0 0), (21, .b y1_21)], [.box 34 (eC34 a0)]⟩ := by
    intro y1_21 H
    by_cases c4 : y1_21 = true
    · replace H := iT c4 H
      rw [c4]
      refine goK hT 5 (K17 11010 1) ⟨143, [(2, .b false)], [.box 34 (eC34 a0)]⟩ ?_
      obtain rfl := retC H
      exact ak_ret hf hX (av := .b false) (by kernel_rfl) [] (sel_of_eq (by kernel_rfl)) (by decide) (by rw [h0]; rfl) (by kernel_rfl) (fun _ h => all_nil h) (.d (.v _))
    · replace H := iF c4 H
      rw [boF c4]
      refine goK hT 2 (K17 11 1) ⟨143, [(1, .ptr 0 0 0 0)], [.box 34 (eC34 a0)]⟩ ?_
      refine goK hT 7 (K17 1110 1) ⟨143, [(1, .ptr 0 0 0 0), (24, .b (a0.Kind == 2))], [.box 34 (eC34 a0)]⟩ ?_
      by_cases c5 : a0.Kind = 2
      · replace H := iT c5 H
        have Jj2 : ∀ (y2_2 : Bool), (spliceref04_Check.j2 y2_2) = some r → AK X 17 ((K17 111010 1)) (Back X [] (.b r)) ⟨143, [(2, .b y2_2)], []⟩ := by
          intro y2_2 H
          obtain rfl := retC H
          exact ak_ret hf hX (av := .b y2_2) (by kernel_rfl) [] (sel_of_eq (by kernel_rfl)) (by decide) (by rw [h0]; rfl) (by kernel_rfl) (fun _ h => all_nil h) (.d (.v _))
        rw [eqT c5]
        refine goK hT 8 (K17 1110100 5) ⟨143, [(1, .ptr 0 0 0 0), (29, .b ((a0.Pairs.length : Int) == 0))], [.box 34 (eC34 a0)]⟩ ?_
        by_cases c6 : (a0.Pairs.length : Int) = 0
        · replace H := iT c6 H
          rw [eqT c6]
          refine goK hT 5 (K17 1110100 10) ⟨143, [(1, .ptr 0 0 0 0), (34, .b (a0.Old == 0))], [.box 34 (eC34 a0)]⟩ ?_
          by_cases c7 : a0.Old = 0
          · replace H := iT c7 H
            rw [eqT c7]
            refine goK hT 2 (K17 1110100 12) ⟨143, [(34, .b true), (36, .d (eG32 a0.Over))], [.box 34 (eC34 a0)]⟩ ?_
            refine ak_callP (avs := [.d (eG32 a0.Over)]) (dst := some 37) (k' := (K17 1110100 13)) [34, 37] [] hP enters_41 (spliceref03_One.says a0.Over) (by kernel_rfl) (hands_none _) (.cons (pass_d _) .nil) (st' := ⟨143, [(34, .b true), (37, .b (spliceref03_One a0.Over))], [.box 34 (eC34 a0)]⟩) (by kernel_rfl) ?_
            refine goK hT 3 (K17 111010 1) ⟨143, [(2, .b (spliceref03_One a0.Over))], [.box 34 (eC34 a0)]⟩ ?_
            refine cutK [] ⟨143, [(2, .b (spliceref03_One a0.Over))], []⟩ h0 ?_
            exact Jj2 (spliceref03_One a0.Over) H
          · replace H := iF c7 H
            rw [eqF c7]
            refine goK hT 6 (K17 111010 1) ⟨143, [(2, .b false)], [.box 34 (eC34 a0)]⟩ ?_
            refine cutK [] ⟨143, [(2, .b false)], []⟩ h0 ?_
            exact Jj2 false H
        · replace H := iF c6 H
          rw [eqF c6]
          refine goK hT 11 (K17 111010 1) ⟨143, [(2, .b false)], [.box 34 (eC34 a0)]⟩ ?_
          refine cutK [] ⟨143, [(2, .b false)], []⟩ h0 ?_
          exact Jj2 false H
      · replace H := iF c5 H
        have Jj3 : ∀ (y3_48 : Bool), (spliceref04_Check.j3 a0 y3_48) = some r → AK X 17 ((K17 11110 1)) (Back X [] (.b r)) ⟨143, [(1, .ptr 0 0 0 0), (48, .b y3_48)], [.box 34 (eC34 a0)]⟩ := by
          intro y3_48 H
          by_cases c9 : y3_48 = true
          · replace H := iT c9 H
            rw [c9]
            refine goK hT 5 (K17 1111010 1) ⟨143, [(2, .b false)], [.box 34 (eC34 a0)]⟩ ?_
            obtain rfl := retC H
            exact ak_ret hf hX (av := .b false) (by kernel_rfl) [] (sel_of_eq (by kernel_rfl)) (by decide) (by rw [h0]; rfl) (by kernel_rfl) (fun _ h => all_nil h) (.d (.v _))
          · replace H := iF c9 H
            rw [boF c9]
            refine goK hT 2 (K17 1111 1) ⟨143, [(1, .ptr 0 0 0 0)], [.box 34 (eC34 a0)]⟩ ?_
            refine goK hT 7 (K17 111110 1) ⟨143, [(1, .ptr 0 0 0 0), (51, .b (a0.Kind == 4))], [.box 34 (eC34 a0)]⟩ ?_
            by_cases c10 : a0.Kind = 4
            · replace H := iT c10 H
              rw [eqT c10]
              refine goK hT 5 (K17 111110100 2) ⟨143, [(1, .ptr 0 0 0 0), (53, .d (eL79 true a0.Pairs))], [.box 34 (eC34 a0)]⟩ ?_
              obtain ⟨v1, h11, H⟩ := ibC H
              have Jj4 : ∀ (y4_2 : Bool), (spliceref04_Check.j4 y4_2) = some r → AK X 17 ((K17 11111010 1)) (Back X [] (.b r)) ⟨143, [(2, .b y4_2)], []⟩ := by
                intro y4_2 H
                obtain rfl := retC H
                exact ak_ret hf hX (av := .b y4_2) (by kernel_rfl) [] (sel_of_eq (by kernel_rfl)) (by decide) (by rw [h0]; rfl) (by kernel_rfl) (fun _ h => all_nil h) (.d (.v _))
              refine ak_callP (avs := [.d (eL79 true a0.Pairs), .i 1, .i 1]) (dst := some 54) (k' := (K17 111110100 3)) [1, 54] [] hP enters_42 (spliceref04_pairs.says (t0 := true) a0.Pairs 1 1 h11) (by kernel_rfl) (hands_none _) (.cons (pass_d _) (.cons (pass_d _) (.cons (pass_d _) .nil))) (st' := ⟨143, [(1, .ptr 0 0 0 0), (54, .b v1)], [.box 34 (eC34 a0)]⟩) (by kernel_rfl) ?_
              refine goK hT 1 (K17 111110100 4) ⟨143, [(1, .ptr 0 0 0 0), (55, .b v1)], [.box 34 (eC34 a0)]⟩ ?_
              by_cases c12 : v1 = true
              · replace H := iT c12 H
                rw [c12]
                refine goK hT 2 (K17 111110100 6) ⟨143, [(1, .ptr 0 0 0 0), (55, .b true), (57, .i a0.Old)], [.box 34 (eC34 a0)]⟩ ?_
                refine ak_callP (avs := [.i a0.Old]) (dst := some 58) (k' := (K17 111110100 7)) [1, 55, 58] [] hP enters_43 (spliceref04_value.says a0.Old) (by kernel_rfl) (hands_none _) (.cons (pass_d _) .nil) (st' := ⟨143, [(1, .ptr 0 0 0 0), (55, .b true), (58, .b (spliceref04_value a0.Old))], [.box 34 (eC34 a0)]⟩) (by kernel_rfl) ?_
                refine goK hT 1 (K17 111110100 8) ⟨143, [(1, .ptr 0 0 0 0), (55, .b true), (59, .b (spliceref04_value a0.Old))], [.box 34 (eC34 a0)]⟩ ?_
                by_cases c13 : (spliceref04_value a0.Old) = true
                · replace H := iT c13 H
                  rw [c13]
                  refine goK hT 7 (K17 11111010 1) ⟨143, [(2, .b true)], [.box 34 (eC34 a0)]⟩ ?_
                  refine cutK [] ⟨143, [(2, .b true)], []⟩ h0 ?_
                  exact Jj4 true H
                · replace H := iF c13 H
                  rw [boF c13]
                  refine goK hT 7 (K17 11111010 1) ⟨143, [(2, .b (a0.Old == 1099511627777))], [.box 34 (eC34 a0)]⟩ ?_
                  refine cutK [] ⟨143, [(2, .b (a0.Old == 1099511627777))], []⟩ h0 ?_
                  exact Jj4 (a0.Old == 1099511627777) H
              · replace H := iF c12 H
                rw [boF c12]
                refine goK hT 11 (K17 11111010 1) ⟨143, [(2, .b false)], [.box 34 (eC34 a0)]⟩ ?_
                refine cutK [] ⟨143, [(2, .b false)], []⟩ h0 ?_
                exact Jj4 false H
            · replace H := iF c10 H
              rw [eqF c10]
              refine goK hT 2 (K17 11111 1) ⟨143, [(1, .ptr 0 0 0 0)], [.box 34 (eC34 a0)]⟩ ?_
              refine goK hT 7 (K17 1111110 1) ⟨143, [(1, .ptr 0 0 0 0), (67, .b (a0.Old != 0))], [.box 34 (eC34 a0)]⟩ ?_
              by_cases c14 : a0.Old = 0
              · replace H := iT c14 H
                rw [neF c14]
                refine goK hT 2 (K17 111111 1) ⟨143, [(1, .ptr 0 0 0 0)], [.box 34 (eC34 a0)]⟩ ?_
                refine goK hT 7 (K17 11111110 1) ⟨143, [(1, .ptr 0 0 0 0), (70, .b (a0.Kind == 1))], [.box 34 (eC34 a0)]⟩ ?_
                by_cases c15 : a0.Kind = 1
                · replace H := iT c15 H
                  rw [eqT c15]
                  refine goK hT 8 (K17 1111111010010 0) ⟨143, [(1, .ptr 0 0 0 0), (3, .i 1)], [.box 34 (eC34 a0)]⟩ ?_
                  have L : ∀ n, (∀ (x1_3 : Int), iter (spliceref04_Check.step a0) n (.l1 x1_3) = some r → AK X 17 ((K17 1111111010010 0)) (Back X [] (.b r)) ⟨143, [(1, .ptr 0 0 0 0), (3, .i x1_3)], [.box 34 (eC34 a0)]⟩) := by
                    intro n
                    induction n with
                    | zero => exact fun _ H => iter0 H
                    | succ n ih =>
                      · intro x1_3 H
                        refine goK hT 9 (K17 111111101001000 1) ⟨143, [(1, .ptr 0 0 0 0), (3, .i x1_3), (75, .b (decide (x1_3 < (a0.Pairs.length : Int))))], [.box 34 (eC34 a0)]⟩ ?_
                        by_cases c16 : x1_3 < (a0.Pairs.length : Int)
                        · replace H := sT c16 H
                          rw [decide_eq_true c16]
                          refine goK hT 2 (K17 11111110100100 1) ⟨143, [(1, .ptr 0 0 0 0), (3, .i x1_3)], [.box 34 (eC34 a0)]⟩ ?_
                          refine goK hT 3 (K17 11111110100100100 0) ⟨143, [(1, .ptr 0 0 0 0), (3, .i x1_3)], [.box 34 (eC34 a0)]⟩ ?_
                          obtain ⟨h18, H⟩ := sC H
                          obtain ⟨h19, H⟩ := sC H
                          refine drawK (hP ▸ mixed) 14 [1, 3] [some (.ptr 0 0 0 3), some (.d (eL79 true a0.Pairs)), some (.i x1_3), some (.i (IntKind.wrap .i64 (x1_3 - 1))), some (.d (eP79 true a0.Pairs ((IntKind.wrap .i64 (x1_3 - 1)).toNat) 0)), some (.d (eP79 true a0.Pairs ((IntKind.wrap .i64 (x1_3 - 1)).toNat) 0)), some (.i ((a0.Pairs.getD ((IntKind.wrap .i64 (x1_3 - 1)).toNat) spliceref04_Pair.z).Key)), some (.ptr 0 0 0 3), some (.d (eL79 true a0.Pairs)), some (.i x1_3), some (.d (eP79 true a0.Pairs x1_3.toNat 0)), some (.d (eP79 true a0.Pairs x1_3.toNat 0)), some (.i ((a0.Pairs.getD x1_3.toNat spliceref04_Pair.z).Key)), some (.b (decide (((a0.Pairs.getD ((IntKind.wrap .i64 (x1_3 - 1)).toNat) spliceref04_Pair.z).Key) ≥ ((a0.Pairs.getD x1_3.toNat spliceref04_Pair.z).Key))))] (opG (opG (opG (opS (opG (opG (opG (opG (opG (opS (opG (opG (opG (opG op0 hT) hT) hT) hT) (fun R rest h => ak_idx0 hT (i := IntKind.wrap .i64 (x1_3 - 1)) (n := (a0.Pairs.length : Int)) h18.1 h18.2 (by kernel_rfl) h)) hT) hT) hT) hT) hT) (fun R rest h => ak_idx0 hT (i := x1_3) (n := (a0.Pairs.length : Int)) h19.1 h19.2 (by kernel_rfl) h)) hT) hT) hT) ?_
                          refine goK hT 1 (K17 11111110100100100 1) ⟨143, [(1, .ptr 0 0 0 0), (3, .i x1_3), (91, .b (decide (((a0.Pairs.getD ((IntKind.wrap .i64 (x1_3 - 1)).toNat) spliceref04_Pair.z).Key) ≥ ((a0.Pairs.getD x1_3.toNat spliceref04_Pair.z).Key))))], [.box 34 (eC34 a0)]⟩ ?_
                          by_cases c20 : ((a0.Pairs.getD ((IntKind.wrap .i64 (x1_3 - 1)).toNat) spliceref04_Pair.z).Key) ≥ ((a0.Pairs.getD x1_3.toNat spliceref04_Pair.z).Key)
                          · replace H := sT c20 H
                            rw [decide_eq_true c20]
                            refine goK hT 5 (K17 1111111010010010010 1) ⟨143, [(2, .b false)], [.box 34 (eC34 a0)]⟩ ?_
                            obtain rfl := retC H
                            exact ak_ret hf hX (av := .b false) (by kernel_rfl) [] (sel_of_eq (by kernel_rfl)) (by decide) (by rw [h0]; rfl) (by kernel_rfl) (fun _ h => all_nil h) (.d (.v _))
                          · replace H := sF c20 H
                            rw [decide_eq_false c20]
                            refine goK hT 3 (K17 111111101001001 1) ⟨143, [(1, .ptr 0 0 0 0), (3, .i x1_3)], [.box 34 (eC34 a0)]⟩ ?_
                            refine goK hT 6 (K17 1111111010010 0) ⟨143, [(1, .ptr 0 0 0 0), (3, .i (IntKind.wrap .i64 (x1_3 + 1)))], [.box 34 (eC34 a0)]⟩ ?_
                            refine cutK [0] ⟨143, [(1, .ptr 0 0 0 0), (3, .i (IntKind.wrap .i64 (x1_3 + 1)))], [.box 34 (eC34 a0)]⟩ h0 ?_
                            exact ih (IntKind.wrap .i64 (x1_3 + 1)) H
                        · replace H := sF c16 H
                          rw [decide_eq_false c16]
                          refine goK hT 6 (K17 111111101010 2) ⟨143, [(93, .d (eL79 true a0.Pairs))], [.box 34 (eC34 a0)]⟩ ?_
                          obtain ⟨v2, h17, H⟩ := sbC H
                          refine ak_callP (avs := [.d (eL79 true a0.Pairs), .i 1, .i 8]) (dst := some 94) (k' := (K17 111111101010 3)) [94] [] hP enters_42 (spliceref04_pairs.says (t0 := true) a0.Pairs 1 8 h17) (by kernel_rfl) (hands_none _) (.cons (pass_d _) (.cons (pass_d _) (.cons (pass_d _) .nil))) (st' := ⟨143, [(94, .b v2)], [.box 34 (eC34 a0)]⟩) (by kernel_rfl) ?_
                          refine goK hT 2 (K17 11111110101 1) ⟨143, [(2, .b v2)], [.box 34 (eC34 a0)]⟩ ?_
                          obtain rfl := retC H
                          exact ak_ret hf hX (av := .b v2) (by kernel_rfl) [] (sel_of_eq (by kernel_rfl)) (by decide) (by rw [h0]; rfl) (by kernel_rfl) (fun _ h => all_nil h) (.d (.v _))
                  refine cutK [0] ⟨143, [(1, .ptr 0 0 0 0), (3, .i 1)], [.box 34 (eC34 a0)]⟩ h0 ?_
                  obtain ⟨n, H⟩ := loopC H
                  exact (L n) 1 H
                · replace H := iF c15 H
                  rw [eqF c15]
                  refine goK hT 2 (K17 1111111 1) ⟨143, [(1, .ptr 0 0 0 0)], [.box 34 (eC34 a0)]⟩ ?_
                  refine goK hT 7 (K17 111111110 1) ⟨143, [(1, .ptr 0 0 0 0), (97, .b (a0.Kind == 3))], [.box 34 (eC34 a0)]⟩ ?_
                  by_cases c21 : a0.Kind = 3
                  · replace H := iT c21 H
                    rw [eqT c21]
                    refine goK hT 5 (K17 111111110100 2) ⟨143, [(99, .d (eL79 true a0.Pairs))], [.box 34 (eC34 a0)]⟩ ?_
                    obtain ⟨v3, h22, H⟩ := ibC H
                    refine ak_callP (avs := [.d (eL79 true a0.Pairs), .i 1, .i 1]) (dst := some 100) (k' := (K17 111111110100 3)) [100] [] hP enters_42 (spliceref04_pairs.says (t0 := true) a0.Pairs 1 1 h22) (by kernel_rfl) (hands_none _) (.cons (pass_d _) (.cons (pass_d _) (.cons (pass_d _) .nil))) (st' := ⟨143, [(100, .b v3)], [.box 34 (eC34 a0)]⟩) (by kernel_rfl) ?_
                    refine goK hT 2 (K17 11111111010 1) ⟨143, [(2, .b v3)], [.box 34 (eC34 a0)]⟩ ?_
                    obtain rfl := retC H
                    exact ak_ret hf hX (av := .b v3) (by kernel_rfl) [] (sel_of_eq (by kernel_rfl)) (by decide) (by rw [h0]; rfl) (by kernel_rfl) (fun _ h => all_nil h) (.d (.v _))
                  · replace H := iF c21 H
                    have Jj5 : ∀ (y5_2 : Bool), (spliceref04_Check.j5 y5_2) = some r → AK X 17 ((K17 111111111 1)) (Back X [] (.b r)) ⟨143, [(2, .b y5_2)], []⟩ := by
                      intro y5_2 H
                      obtain rfl := retC H
                      exact ak_ret hf hX (av := .b y5_2) (by kernel_rfl) [] (sel_of_eq (by kernel_rfl)) (by decide) (by rw [h0]; rfl) (by kernel_rfl) (fun _ h => all_nil h) (.d (.v _))
                    rw [eqF c21]
                    refine goK hT 2 (K17 11111111 1) ⟨143, [(1, .ptr 0 0 0 0)], [.box 34 (eC34 a0)]⟩ ?_
                    refine goK hT 1 (K17 111111111 0) ⟨143, [(1, .ptr 0 0 0 0)], [.box 34 (eC34 a0)]⟩ ?_
                    by_cases c23 : a0.Kind = 5
                    · replace H := iT c23 H
                      obtain ⟨v4, h24, H⟩ := ibC H
                      by_cases c25 : v4 = true
                      · replace H := iT c25 H
                        obtain ⟨h26, H⟩ := iC H
                        obtain ⟨h27, H⟩ := iC H
                        by_cases c28 : ((a0.Pairs.getD 0 spliceref04_Pair.z).Key) = ((a0.Pairs.getD 1 spliceref04_Pair.z).Key)
                        · replace H := iT c28 H
                          refine drawK (hP ▸ mixed) 32 [1] [some (.ptr 0 0 0 2), some (.i a0.Kind), some (.b true), some (.b true), some (.ptr 0 0 0 3), some (.d (eL79 true a0.Pairs)), some (.b true), some (.b true), some (.b true), some (.ptr 0 0 0 3), some (.d (eL79 true a0.Pairs)), some (.d (eP79 true a0.Pairs 0 0)), some (.d (eP79 true a0.Pairs 0 0)), some (.i ((a0.Pairs.getD 0 spliceref04_Pair.z).Key)), some (.ptr 0 0 0 3), some (.d (eL79 true a0.Pairs)), some (.d (eP79 true a0.Pairs 1 0)), some (.d (eP79 true a0.Pairs 1 0)), some (.i ((a0.Pairs.getD 1 spliceref04_Pair.z).Key)), some (.b false), some (.b false), some (.b false), some (.tup []), some (.tup []), some (.tup []), some (.tup []), some (.tup []), some (.tup []), some (.tup []), some (.tup []), some (.tup []), some (.tup [])] (opG (opG (opG (opG (opG (opG (opG (opG (opG (opG (opG (opG (opV (opG (opG (opS (opG (opG (opG (opG (opS (opG (opG (opG (opG (opS (opG (opG (opG (opV (opG (opG op0 hT) hT) hT 103 (.b (a0.Kind == 5)) (.b true) (by rw [eqT c23])) hT) hT) hT) (fun R rest h => ak_callD (avs := [.d (eL79 true a0.Pairs), .i 2, .i 2]) (dst := some 107) hP enters_42 (by have q := spliceref04_pairs.says (t0 := true) a0.Pairs 2 2 h24; rw [c25] at q; exact q) (by kernel_rfl) (.cons (pass_d _) (.cons (pass_d _) (.cons (pass_d _) .nil))) (by kernel_rfl) h)) hT) hT) hT) hT) (fun R rest h => ak_idx0 hT (i := 0) (n := (a0.Pairs.length : Int)) h26.1 h26.2 (by kernel_rfl) h)) hT) hT) hT) hT) (fun R rest h => ak_idx0 hT (i := 1) (n := (a0.Pairs.length : Int)) h27.1 h27.2 (by kernel_rfl) h)) hT) hT) hT 120 (.b (((a0.Pairs.getD 0 spliceref04_Pair.z).Key) != ((a0.Pairs.getD 1 spliceref04_Pair.z).Key))) (.b false) (by rw [neF c28])) hT) hT) hT) hT) hT) hT) hT) hT) hT) hT) hT) hT) ?_
                          refine goK hT 12 (K17 111111111 1) ⟨143, [(2, .b false)], [.box 34 (eC34 a0)]⟩ ?_
                          refine cutK [] ⟨143, [(2, .b false)], []⟩ h0 ?_
                          exact Jj5 false H
                        · replace H := iF c28 H
                          refine drawK (hP ▸ mixed) 32 [1] [some (.ptr 0 0 0 2), some (.i a0.Kind), some (.b true), some (.b true), some (.ptr 0 0 0 3), some (.d (eL79 true a0.Pairs)), some (.b true), some (.b true), some (.b true), some (.ptr 0 0 0 3), some (.d (eL79 true a0.Pairs)), some (.d (eP79 true a0.Pairs 0 0)), some (.d (eP79 true a0.Pairs 0 0)), some (.i ((a0.Pairs.getD 0 spliceref04_Pair.z).Key)), some (.ptr 0 0 0 3), some (.d (eL79 true a0.Pairs)), some (.d (eP79 true a0.Pairs 1 0)), some (.d (eP79 true a0.Pairs 1 0)), some (.i ((a0.Pairs.getD 1 spliceref04_Pair.z).Key)), some (.b true), some (.b true), some (.b true), some (.ptr 0 0 0 3), some (.d (eL79 true a0.Pairs)), some (.d (eP79 true a0.Pairs 0 0)), some (.d (eP79 true a0.Pairs 0 1)), some (.i ((a0.Pairs.getD 0 spliceref04_Pair.z).Val)), some (.ptr 0 0 0 3), some (.d (eL79 true a0.Pairs)), some (.d (eP79 true a0.Pairs 1 0)), some (.d (eP79 true a0.Pairs 1 1)), some (.i ((a0.Pairs.getD 1 spliceref04_Pair.z).Val))] (opG (opG (opS (opG (opG (opG (opG (opS (opG (opG (opG (opG (opV (opG (opG (opS (opG (opG (opG (opG (opS (opG (opG (opG (opG (opS (opG (opG (opG (opV (opG (opG op0 hT) hT) hT 103 (.b (a0.Kind == 5)) (.b true) (by rw [eqT c23])) hT) hT) hT) (fun R rest h => ak_callD (avs := [.d (eL79 true a0.Pairs), .i 2, .i 2]) (dst := some 107) hP enters_42 (by have q := spliceref04_pairs.says (t0 := true) a0.Pairs 2 2 h24; rw [c25] at q; exact q) (by kernel_rfl) (.cons (pass_d _) (.cons (pass_d _) (.cons (pass_d _) .nil))) (by kernel_rfl) h)) hT) hT) hT) hT) (fun R rest h => ak_idx0 hT (i := 0) (n := (a0.Pairs.length : Int)) h26.1 h26.2 (by kernel_rfl) h)) hT) hT) hT) hT) (fun R rest h => ak_idx0 hT (i := 1) (n := (a0.Pairs.length : Int)) h27.1 h27.2 (by kernel_rfl) h)) hT) hT) hT 120 (.b (((a0.Pairs.getD 0 spliceref04_Pair.z).Key) != ((a0.Pairs.getD 1 spliceref04_Pair.z).Key))) (.b true) (by rw [neT c28])) hT) hT) hT) hT) (fun R rest h => ak_idx0 hT (i := 0) (n := (a0.Pairs.length : Int)) h26.1 h26.2 (by kernel_rfl) h)) hT) hT) hT) hT) (fun R rest h => ak_idx0 hT (i := 1) (n := (a0.Pairs.length : Int)) h27.1 h27.2 (by kernel_rfl) h)) hT) hT) ?_
                          refine goK hT 3 (K17 1111111110 35) ⟨143, [(1, .ptr 0 0 0 0), (135, .b (((a0.Pairs.getD 0 spliceref04_Pair.z).Val) == ((a0.Pairs.getD 1 spliceref04_Pair.z).Val)))], [.box 34 (eC34 a0)]⟩ ?_
                          by_cases c29 : ((a0.Pairs.getD 0 spliceref04_Pair.z).Val) = ((a0.Pairs.getD 1 spliceref04_Pair.z).Val)
                          · replace H := iT c29 H
                            rw [eqT c29]
                            refine goK hT 2 (K17 1111111110 37) ⟨143, [(135, .b true), (137, .d (eL79 true a0.Pairs))], [.box 34 (eC34 a0)]⟩ ?_
                            refine ak_idx hT [135, 138] (i := 0) (n := (a0.Pairs.length : Int)) h26.1 h26.2 (k' := (K17 1111111110 38)) (st' := ⟨143, [(135, .b true), (138, .d (eP79 true a0.Pairs 0 0))], [.box 34 (eC34 a0)]⟩) (by kernel_rfl) ?_
                            refine goK hT 6 (K17 111111111 1) ⟨143, [(2, .b (decide (((a0.Pairs.getD 0 spliceref04_Pair.z).Val) ≥ 0)))], [.box 34 (eC34 a0)]⟩ ?_
                            refine cutK [] ⟨143, [(2, .b (decide (((a0.Pairs.getD 0 spliceref04_Pair.z).Val) ≥ 0)))], []⟩ h0 ?_
                            exact Jj5 (decide (((a0.Pairs.getD 0 spliceref04_Pair.z).Val) ≥ 0)) H
                          · replace H := iF c29 H
                            rw [eqF c29]
                            refine goK hT 9 (K17 111111111 1) ⟨143, [(2, .b false)], [.box 34 (eC34 a0)]⟩ ?_
                            refine cutK [] ⟨143, [(2, .b false)], []⟩ h0 ?_
                            exact Jj5 false H
                      · replace H := iF c25 H
                        refine drawK (hP ▸ mixed) 32 [1] [some (.ptr 0 0 0 2), some (.i a0.Kind), some (.b true), some (.b true), some (.ptr 0 0 0 3), some (.d (eL79 true a0.Pairs)), some (.b false), some (.b false), some (.b false), some (.tup []), some (.tup []), some (.tup []), some (.tup []), some (.tup []), some (.tup []), some (.tup []), some (.tup []), some (.tup []), some (.tup []), some (.tup []), some (.b false), some (.b false), some (.tup []), some (.tup []), some (.tup []), some (.tup []), some (.tup []), some (.tup []), some (.tup []), some (.tup []), some (.tup []), some (.tup [])] (opG (opG (opG (opG (opG (opG (opG (opG (opG (opG (opG (opG (opG (opG (opG (opG (opG (opG (opG (opG (opG (opG (opG (opG (opG (opS (opG (opG (opG (opV (opG (opG op0 hT) hT) hT 103 (.b (a0.Kind == 5)) (.b true) (by rw [eqT c23])) hT) hT) hT) (fun R rest h => ak_callD (avs := [.d (eL79 true a0.Pairs), .i 2, .i 2]) (dst := some 107) hP enters_42 (by have q := spliceref04_pairs.says (t0 := true) a0.Pairs 2 2 h24; rw [boF c25] at q; exact q) (by kernel_rfl) (.cons (pass_d _) (.cons (pass_d _) (.cons (pass_d _) .nil))) (by kernel_rfl) h)) hT) hT) hT) hT) hT) hT) hT) hT) hT) hT) hT) hT) hT) hT) hT) hT) hT) hT) hT) hT) hT) hT) hT) hT) hT) ?_
                        refine goK hT 12 (K17 111111111 1) ⟨143, [(2, .b false)], [.box 34 (eC34 a0)]⟩ ?_
                        refine cutK [] ⟨143, [(2, .b false)], []⟩ h0 ?_
                        exact Jj5 false H
                    · replace H := iF c23 H
                      refine drawK (hP ▸ mixed) 32 [1] [some (.ptr 0 0 0 2), some (.i a0.Kind), some (.b false), some (.b false), some (.tup []), some (.tup []), some (.tup []), some (.b false), some (.b false), some (.tup []), some (.tup []), some (.tup []), some (.tup []), some (.tup []), some (.tup []), some (.tup []), some (.tup []), some (.tup []), some (.tup []), some (.tup []), some (.b false), some (.b false), some (.tup []), some (.tup []), some (.tup []), some (.tup []), some (.tup []), some (.tup []), some (.tup []), some (.tup []), some (.tup []), some (.tup [])] (opG (opG (opG (opG (opG (opG (opG (opG (opG (opG (opG (opG (opG (opG (opG (opG (opG (opG (opG (opG (opG (opG (opG (opG (opG (opG (opG (opG (opG (opV (opG (opG op0 hT) hT) hT 103 (.b (a0.Kind == 5)) (.b false) (by rw [eqF c23])) hT) hT) hT) hT) hT) hT) hT) hT) hT) hT) hT) hT) hT) hT) hT) hT) hT) hT) hT) hT) hT) hT) hT) hT) hT) hT) hT) hT) hT) ?_
                      refine goK hT 12 (K17 111111111 1) ⟨143, [(2, .b false)], [.box 34 (eC34 a0)]⟩ ?_
                      refine cutK [] ⟨143, [(2, .b false)], []⟩ h0 ?_
                      exact Jj5 false H
              · replace H := iF c14 H
                rw [neT c14]
                refine goK hT 5 (K17 111111010 1) ⟨143, [(2, .b false)], [.box 34 (eC34 a0)]⟩ ?_
                obtain rfl := retC H
                exact ak_ret hf hX (av := .b false) (by kernel_rfl) [] (sel_of_eq (by kernel_rfl)) (by decide) (by rw [h0]; rfl) (by kernel_rfl) (fun _ h => all_nil h) (.d (.v _))
        rw [eqF c5]
        refine goK hT 2 (K17 111 1) ⟨143, [(1, .ptr 0 0 0 0)], [.box 34 (eC34 a0)]⟩ ?_
        refine goK hT 8 (K17 111100 5) ⟨143, [(1, .ptr 0 0 0 0), (43, .b (a0.Over.Lo != 0))], [.box 34 (eC34 a0)]⟩ ?_
        by_cases c8 : a0.Over.Lo = 0
        · replace H := iT c8 H
          rw [neF c8]
          refine goK hT 6 (K17 11110 1) ⟨143, [(1, .ptr 0 0 0 0), (48, .b (a0.Over.Hi != 0))], [.box 34 (eC34 a0)]⟩ ?_
          refine cutK [0] ⟨143, [(1, .ptr 0 0 0 0), (48, .b (a0.Over.Hi != 0))], [.box 34 (eC34 a0)]⟩ h0 ?_
          exact Jj3 (a0.Over.Hi != 0) H
        · replace H := iF c8 H
          rw [neT c8]
          refine goK hT 6 (K17 11110 1) ⟨143, [(1, .ptr 0 0 0 0), (48, .b true)], [.box 34 (eC34 a0)]⟩ ?_
          refine cutK [0] ⟨143, [(1, .ptr 0 0 0 0), (48, .b true)], [.box 34 (eC34 a0)]⟩ h0 ?_
          exact Jj3 true H
  refine goK hT 12 (K17 1100 4) ⟨143, [(1, .ptr 0 0 0 0), (7, .b (decide (a0.Client < 1)))], [.box 34 (eC34 a0)]⟩ ?_
  by_cases c1 : a0.Client < 1
  · replace H := iT c1 H
    rw [decide_eq_true c1]
    refine goK hT 15 (K17 110 1) ⟨143, [(1, .ptr 0 0 0 0), (21, .b true)], [.box 34 (eC34 a0)]⟩ ?_
    refine cutK [0] ⟨143, [(1, .ptr 0 0 0 0), (21, .b true)], [.box 34 (eC34 a0)]⟩ h0 ?_
    exact Jj1 true H
  · replace H := iF c1 H
    rw [decide_eq_false c1]
    refine goK hT 5 (K17 1100 9) ⟨143, [(1, .ptr 0 0 0 0), (12, .b (decide (a0.Client > 1048576)))], [.box 34 (eC34 a0)]⟩ ?_
    by_cases c2 : a0.Client > 1048576
    · replace H := iT c2 H
      rw [decide_eq_true c2]
      refine goK hT 10 (K17 110 1) ⟨143, [(1, .ptr 0 0 0 0), (21, .b true)], [.box 34 (eC34 a0)]⟩ ?_
      refine cutK [0] ⟨143, [(1, .ptr 0 0 0 0), (21, .b true)], [.box 34 (eC34 a0)]⟩ h0 ?_
      exact Jj1 true H
    · replace H := iF c2 H
      rw [decide_eq_false c2]
      refine goK hT 5 (K17 1100 14) ⟨143, [(1, .ptr 0 0 0 0), (17, .b (decide (a0.Seq < 1)))], [.box 34 (eC34 a0)]⟩ ?_
      by_cases c3 : a0.Seq < 1
      · replace H := iT c3 H
        rw [decide_eq_true c3]
        refine goK hT 5 (K17 110 1) ⟨143, [(1, .ptr 0 0 0 0), (21, .b true)], [.box 34 (eC34 a0)]⟩ ?_
        refine cutK [0] ⟨143, [(1, .ptr 0 0 0 0), (21, .b true)], [.box 34 (eC34 a0)]⟩ h0 ?_
        exact Jj1 true H
      · replace H := iF c3 H
        rw [decide_eq_false c3]
        refine goK hT 5 (K17 110 1) ⟨143, [(1, .ptr 0 0 0 0), (21, .b (decide (a0.Seq > 1073741824)))], [.box 34 (eC34 a0)]⟩ ?_
        refine cutK [0] ⟨143, [(1, .ptr 0 0 0 0), (21, .b (decide (a0.Seq > 1073741824)))], [.box 34 (eC34 a0)]⟩ h0 ?_
        exact Jj1 (decide (a0.Seq > 1073741824)) H


theorem mut_Alone.says (a0 : api_Mut) {r : Bool} (H : mut_Alone a0 = some r) : Says Try.prog 19 [] [.d (eG26 a0)] [] (.b r) := by
  refine says_of Try.func19 rfl (nt := 15) rfl (Nat.le_of_ble_eq_true rfl) fun X hP h0 hX => ?_
  have hT : TabOk X.P T := hP ▸ tok
  have hf : X.P.funcs[19]? = some Try.f19 := hP ▸ Try.func19
  refine goK hT 8 (K19 110 1) ⟨15, [(1, .ptr 0 0 0 0), (3, .d (eG26 a0))], [.box 26 (eC26 a0)]⟩ ?_
  obtain ⟨v1, h1, H⟩ := ibC H
  have Jj1 : ∀ (y1_2 : Bool), (mut_Alone.j1 y1_2) = some r → AK X 19 ((K19 11 1)) (Back X [] (.b r)) ⟨15, [(2, .b y1_2)], []⟩ := by
    intro y1_2 H
    obtain rfl := retC H
    exact ak_ret hf hX (av := .b y1_2) (by kernel_rfl) [] (sel_of_eq (by kernel_rfl)) (by decide) (by rw [h0]; rfl) (by kernel_rfl) (fun _ h => all_nil h) (.d (.v _))
  refine ak_callP (avs := [.d (eG26 a0)]) (dst := some 4) (k' := (K19 110 2)) [1, 4] [] hP enters_18 (mut_Check.says a0 h1) (by kernel_rfl) (hands_none _) (.cons (pass_d _) .nil) (st' := ⟨15, [(1, .ptr 0 0 0 0), (4, .b v1)], [.box 26 (eC26 a0)]⟩) (by kernel_rfl) ?_
  refine goK hT 1 (K19 110 3) ⟨15, [(1, .ptr 0 0 0 0), (5, .b v1)], [.box 26 (eC26 a0)]⟩ ?_
  by_cases c2 : v1 = true
  · replace H := iT c2 H
    rw [c2]
    refine goK hT 4 (K19 110 7) ⟨15, [(1, .ptr 0 0 0 0), (5, .b true), (9, .b (a0.Kind == 3))], [.box 26 (eC26 a0)]⟩ ?_
    by_cases c3 : a0.Kind = 3
    · replace H := iT c3 H
      rw [eqT c3]
      refine goK hT 7 (K19 11 1) ⟨15, [(2, .b true)], [.box 26 (eC26 a0)]⟩ ?_
      refine cutK [] ⟨15, [(2, .b true)], []⟩ h0 ?_
      exact Jj1 true H
    · replace H := iF c3 H
      rw [eqF c3]
      refine goK hT 7 (K19 11 1) ⟨15, [(2, .b (a0.Kind == 4))], [.box 26 (eC26 a0)]⟩ ?_
      refine cutK [] ⟨15, [(2, .b (a0.Kind == 4))], []⟩ h0 ?_
      exact Jj1 (a0.Kind == 4) H
  · replace H := iF c2 H
    rw [boF c2]
    refine goK hT 11 (K19 11 1) ⟨15, [(2, .b false)], [.box 26 (eC26 a0)]⟩ ?_
    refine cutK [] ⟨15, [(2, .b false)], []⟩ h0 ?_
    exact Jj1 false H


theorem span_Check.says {t0 : Bool} (a0 : List api_Span) {r : Bool} (H : span_Check a0 = some r) : Says Try.prog 26 [] [.d (eL24 t0 a0)] [] (.b r) := by
  refine says_of Try.func26 rfl (nt := 34) rfl (Nat.le_of_ble_eq_true rfl) fun X hP h0 hX => ?_
  have hT : TabOk X.P T := hP ▸ tok
  have hf : X.P.funcs[26]? = some Try.f26 := hP ▸ Try.func26
  refine goK hT 13 (K26 11010 0) ⟨34, [(0, .d (eL24 t0 a0)), (5, .d (eL24 t0 a0)), (6, .i (a0.length : Int)), (7, .i 0)], []⟩ ?_
  have L : ∀ n, (∀ (x1_7 : Int), iter (span_Check.step a0) n (.l1 x1_7) = some r → AK X 26 ((K26 11010 0)) (Back X [] (.b r)) ⟨34, [(0, .d (eL24 t0 a0)), (5, .d (eL24 t0 a0)), (6, .i (a0.length : Int)), (7, .i x1_7)], []⟩) := by
    intro n
    induction n with
    | zero => exact fun _ H => iter0 H
    | succ n ih =>
      · intro x1_7 H
        refine goK hT 5 (K26 1101001 0) ⟨34, [(0, .d (eL24 t0 a0)), (5, .d (eL24 t0 a0)), (6, .i (a0.length : Int)), (7, .i x1_7), (8, .b (decide (x1_7 < (a0.length : Int))))], []⟩ ?_
        by_cases c1 : x1_7 < (a0.length : Int)
        · replace H := sT c1 H
          rw [decide_eq_true c1]
          refine goK hT 2 (K26 1101001 1) ⟨34, [(0, .d (eL24 t0 a0)), (5, .d (eL24 t0 a0)), (6, .i (a0.length : Int)), (7, .i x1_7)], []⟩ ?_
          refine goK hT 5 (K26 11010011000 1) ⟨34, [(0, .d (eL24 t0 a0)), (5, .d (eL24 t0 a0)), (6, .i (a0.length : Int)), (7, .i x1_7), (9, .i x1_7)], []⟩ ?_
          obtain ⟨h2, H⟩ := sC H
          have Jj1 : ∀ (y1_29 : Bool), stk (span_Check.j1 x1_7 y1_29) (iter (span_Check.step a0) n) = some r → AK X 26 ((K26 11010011001 1)) (Back X [] (.b r)) ⟨34, [(0, .d (eL24 t0 a0)), (5, .d (eL24 t0 a0)), (6, .i (a0.length : Int)), (7, .i x1_7), (29, .b y1_29)], []⟩ := by
            intro y1_29 H
            by_cases c6 : y1_29 = true
            · replace H := sT c6 H
              rw [c6]
              refine goK hT 5 (K26 1101001100110 1) ⟨34, [(2, .b false)], []⟩ ?_
              obtain rfl := retC H
              exact ak_ret hf hX (av := .b false) (by kernel_rfl) [] (sel_of_eq (by kernel_rfl)) (by decide) (by rw [h0]; rfl) (by kernel_rfl) (fun _ h => all_nil h) (.d (.v _))
            · replace H := sF c6 H
              rw [boF c6]
              refine goK hT 3 (K26 11010011 1) ⟨34, [(0, .d (eL24 t0 a0)), (5, .d (eL24 t0 a0)), (6, .i (a0.length : Int)), (7, .i x1_7)], []⟩ ?_
              refine goK hT 5 (K26 11010 0) ⟨34, [(0, .d (eL24 t0 a0)), (5, .d (eL24 t0 a0)), (6, .i (a0.length : Int)), (7, .i (IntKind.wrap .i64 (x1_7 + 1)))], []⟩ ?_
              refine cutK [] ⟨34, [(0, .d (eL24 t0 a0)), (5, .d (eL24 t0 a0)), (6, .i (a0.length : Int)), (7, .i (IntKind.wrap .i64 (x1_7 + 1)))], []⟩ h0 ?_
              exact ih (IntKind.wrap .i64 (x1_7 + 1)) H
          refine ak_idx hT [0, 5, 6, 7, 9, 10] (i := x1_7) (n := (a0.length : Int)) h2.1 h2.2 (k' := (K26 11010011000 2)) (st' := ⟨34, [(0, .d (eL24 t0 a0)), (5, .d (eL24 t0 a0)), (6, .i (a0.length : Int)), (7, .i x1_7), (9, .i x1_7), (10, .d (eP24 t0 a0 x1_7.toNat 0))], []⟩) (by kernel_rfl) ?_
          refine goK hT 6 (K26 11010011001 0) ⟨34, [(0, .d (eL24 t0 a0)), (3, .i x1_7), (4, .ptr 0 0 0 0), (5, .d (eL24 t0 a0)), (6, .i (a0.length : Int)), (7, .i x1_7)], [.box 24 (eC24 (a0.getD x1_7.toNat api_Span.z))]⟩ ?_
          by_cases c3 : (span_One (a0.getD x1_7.toNat api_Span.z)) = true
          · replace H := sT c3 H
            by_cases c4 : x1_7 > 0
            · replace H := sT c4 H
              obtain ⟨h5, H⟩ := sC H
              refine drawK (hP ▸ mixed) 18 [0, 3, 4, 5, 6, 7] [some (.d (eG24 (a0.getD x1_7.toNat api_Span.z))), some (.b true), some (.b false), some (.b false), some (.i x1_7), some (.b true), some (.b true), some (.ptr 0 0 0 0), some (.i ((a0.getD x1_7.toNat api_Span.z).Lo)), some (.d (eL24 t0 a0)), some (.i x1_7), some (.i (IntKind.wrap .i64 (x1_7 - 1))), some (.d (eP24 t0 a0 ((IntKind.wrap .i64 (x1_7 - 1)).toNat) 0)), some (.d (eP24 t0 a0 ((IntKind.wrap .i64 (x1_7 - 1)).toNat) 1)), some (.i ((a0.getD ((IntKind.wrap .i64 (x1_7 - 1)).toNat) api_Span.z).Hi)), some (.b (decide (((a0.getD x1_7.toNat api_Span.z).Lo) ≤ ((a0.getD ((IntKind.wrap .i64 (x1_7 - 1)).toNat) api_Span.z).Hi)))), some (.b (decide (((a0.getD x1_7.toNat api_Span.z).Lo) ≤ ((a0.getD ((IntKind.wrap .i64 (x1_7 - 1)).toNat) api_Span.z).Hi)))), some (.b (decide (((a0.getD x1_7.toNat api_Span.z).Lo) ≤ ((a0.getD ((IntKind.wrap .i64 (x1_7 - 1)).toNat) api_Span.z).Hi))))] (opG (opG (opG (opG (opG (opS (opG (opG (opG (opG (opG (opG (opV (opG (opG (opG (opS (opG op0 hT) (fun R rest h => ak_callD (avs := [.d (eG24 (a0.getD x1_7.toNat api_Span.z))]) (dst := some 13) hP enters_49 (by have q := span_One.says (a0.getD x1_7.toNat api_Span.z); rw [c3] at q; exact q) (by kernel_rfl) (.cons (pass_d _) .nil) (by kernel_rfl) h)) hT) hT) hT) hT 17 (.b (decide (x1_7 > 0))) (.b true) (by rw [decide_eq_true c4])) hT) hT) hT) hT) hT) hT) (fun R rest h => ak_idx0 hT (i := IntKind.wrap .i64 (x1_7 - 1)) (n := (a0.length : Int)) h5.1 h5.2 (by kernel_rfl) h)) hT) hT) hT) hT) hT) ?_
              refine goK hT 1 (K26 11010011001 1) ⟨34, [(0, .d (eL24 t0 a0)), (5, .d (eL24 t0 a0)), (6, .i (a0.length : Int)), (7, .i x1_7), (29, .b (decide (((a0.getD x1_7.toNat api_Span.z).Lo) ≤ ((a0.getD ((IntKind.wrap .i64 (x1_7 - 1)).toNat) api_Span.z).Hi))))], [.box 24 (eC24 (a0.getD x1_7.toNat api_Span.z))]⟩ ?_
              refine cutK [] ⟨34, [(0, .d (eL24 t0 a0)), (5, .d (eL24 t0 a0)), (6, .i (a0.length : Int)), (7, .i x1_7), (29, .b (decide (((a0.getD x1_7.toNat api_Span.z).Lo) ≤ ((a0.getD ((IntKind.wrap .i64 (x1_7 - 1)).toNat) api_Span.z).Hi))))], []⟩ h0 ?_
              exact Jj1 (decide (((a0.getD x1_7.toNat api_Span.z).Lo) ≤ ((a0.getD ((IntKind.wrap .i64 (x1_7 - 1)).toNat) api_Span.z).Hi))) H
            · replace H := sF c4 H
              refine drawK (hP ▸ mixed) 18 [0, 3, 4, 5, 6, 7] [some (.d (eG24 (a0.getD x1_7.toNat api_Span.z))), some (.b true), some (.b false), some (.b false), some (.i x1_7), some (.b false), some (.b false), some (.tup []), some (.tup []), some (.tup []), some (.tup []), some (.tup []), some (.tup []), some (.tup []), some (.tup []), some (.tup []), some (.b false), some (.b false)] (opG (opG (opG (opG (opG (opG (opG (opG (opG (opG (opG (opG (opV (opG (opG (opG (opS (opG op0 hT) (fun R rest h => ak_callD (avs := [.d (eG24 (a0.getD x1_7.toNat api_Span.z))]) (dst := some 13) hP enters_49 (by have q := span_One.says (a0.getD x1_7.toNat api_Span.z); rw [c3] at q; exact q) (by kernel_rfl) (.cons (pass_d _) .nil) (by kernel_rfl) h)) hT) hT) hT) hT 17 (.b (decide (x1_7 > 0))) (.b false) (by rw [decide_eq_false c4])) hT) hT) hT) hT) hT) hT) hT) hT) hT) hT) hT) hT) ?_
              refine goK hT 1 (K26 11010011001 1) ⟨34, [(0, .d (eL24 t0 a0)), (5, .d (eL24 t0 a0)), (6, .i (a0.length : Int)), (7, .i x1_7), (29, .b false)], [.box 24 (eC24 (a0.getD x1_7.toNat api_Span.z))]⟩ ?_
              refine cutK [] ⟨34, [(0, .d (eL24 t0 a0)), (5, .d (eL24 t0 a0)), (6, .i (a0.length : Int)), (7, .i x1_7), (29, .b false)], []⟩ h0 ?_
              exact Jj1 false H
          · replace H := sF c3 H
            refine drawK (hP ▸ mixed) 18 [0, 3, 4, 5, 6, 7] [some (.d (eG24 (a0.getD x1_7.toNat api_Span.z))), some (.b false), some (.b true), some (.b true), some (.tup []), some (.tup []), some (.tup []), some (.tup []), some (.tup []), some (.tup []), some (.tup []), some (.tup []), some (.tup []), some (.tup []), some (.tup []), some (.tup []), some (.tup []), some (.b true)] (opG (opG (opG (opG (opG (opG (opG (opG (opG (opG (opG (opG (opG (opG (opG (opG (opS (opG op0 hT) (fun R rest h => ak_callD (avs := [.d (eG24 (a0.getD x1_7.toNat api_Span.z))]) (dst := some 13) hP enters_49 (by have q := span_One.says (a0.getD x1_7.toNat api_Span.z); rw [boF c3] at q; exact q) (by kernel_rfl) (.cons (pass_d _) .nil) (by kernel_rfl) h)) hT) hT) hT) hT) hT) hT) hT) hT) hT) hT) hT) hT) hT) hT) hT) hT) ?_
            refine goK hT 1 (K26 11010011001 1) ⟨34, [(0, .d (eL24 t0 a0)), (5, .d (eL24 t0 a0)), (6, .i (a0.length : Int)), (7, .i x1_7), (29, .b true)], [.box 24 (eC24 (a0.getD x1_7.toNat api_Span.z))]⟩ ?_
            refine cutK [] ⟨34, [(0, .d (eL24 t0 a0)), (5, .d (eL24 t0 a0)), (6, .i (a0.length : Int)), (7, .i x1_7), (29, .b true)], []⟩ h0 ?_
            exact Jj1 true H
        · replace H := sF c1 H
          rw [decide_eq_false c1]
          refine goK hT 9 (K26 111 1) ⟨34, [(2, .b (decide ((a0.length : Int) ≤ 64)))], []⟩ ?_
          obtain rfl := retC H
          exact ak_ret hf hX (av := .b (decide ((a0.length : Int) ≤ 64))) (by kernel_rfl) [] (sel_of_eq (by kernel_rfl)) (by decide) (by rw [h0]; rfl) (by kernel_rfl) (fun _ h => all_nil h) (.d (.v _))
  refine cutK [] ⟨34, [(0, .d (eL24 t0 a0)), (5, .d (eL24 t0 a0)), (6, .i (a0.length : Int)), (7, .i 0)], []⟩ h0 ?_
  obtain ⟨n, H⟩ := loopC H
  exact (L n) 0 H


theorem span_Has_1.says (a0 : api_Span) (k0 : Int) : Says Try.prog 51 [] [.d (eG24 a0), .d (.rop false 1 (fun _ => [.i k0]) 0 0)] [] (.b (span_Has_1 a0 k0)) := by
  obtain ⟨r, H⟩ : ∃ r, span_Has_1 a0 k0 = r := ⟨_, rfl⟩
  rw [H]
  refine says_of Try.func51 rfl (nt := 18) rfl (Nat.le_of_ble_eq_true rfl) fun X hP h0 hX => ?_
  have hT : TabOk X.P T := hP ▸ tok
  have hf : X.P.funcs[51]? = some Try.f51 := hP ▸ Try.func51
  have Jj1 : ∀ (y1_3 : Bool), (span_Has_1.j1 y1_3) = r → AK X 51 ((K51 11 1)) (Back X [] (.b r)) ⟨18, [(3, .b y1_3)], []⟩ := by
    intro y1_3 H
    obtain rfl := H
    exact ak_ret hf hX (av := .b y1_3) (by kernel_rfl) [] (sel_of_eq (by kernel_rfl)) (by decide) (by rw [h0]; rfl) (by kernel_rfl) (fun _ h => all_nil h) (.d (.v _))
  refine goK hT 8 (K51 110 1) ⟨18, [(1, .d (.rop false 1 (fun _ => [.i k0]) 0 0)), (2, .ptr 0 0 0 0), (4, .d (eG24 a0))], [.box 24 (eC24 a0)]⟩ ?_
  refine ak_callP (avs := [.d (eG24 a0)]) (dst := some 5) (k' := (K51 110 2)) [1, 2, 5] [] hP enters_49 (span_One.says a0) (by kernel_rfl) (hands_none _) (.cons (pass_d _) .nil) (st' := ⟨18, [(1, .d (.rop false 1 (fun _ => [.i k0]) 0 0)), (2, .ptr 0 0 0 0), (5, .b (span_One a0))], [.box 24 (eC24 a0)]⟩) (by kernel_rfl) ?_
  refine goK hT 1 (K51 110 3) ⟨18, [(1, .d (.rop false 1 (fun _ => [.i k0]) 0 0)), (2, .ptr 0 0 0 0), (6, .b (span_One a0))], [.box 24 (eC24 a0)]⟩ ?_
  by_cases c1 : (span_One a0) = true
  · replace H := iT c1 H
    rw [c1]
    refine goK hT 6 (K51 110 9) ⟨18, [(1, .d (.rop false 1 (fun _ => [.i k0]) 0 0)), (2, .ptr 0 0 0 0), (12, .b (decide (k0 ≥ a0.Lo)))], [.box 24 (eC24 a0)]⟩ ?_
    by_cases c2 : k0 ≥ a0.Lo
    · replace H := iT c2 H
      rw [decide_eq_true c2]
      refine goK hT 7 (K51 11 1) ⟨18, [(3, .b (decide (k0 < a0.Hi)))], [.box 24 (eC24 a0)]⟩ ?_
      refine cutK [] ⟨18, [(3, .b (decide (k0 < a0.Hi)))], []⟩ h0 ?_
      exact Jj1 (decide (k0 < a0.Hi)) H
    · replace H := iF c2 H
      rw [decide_eq_false c2]
      refine goK hT 7 (K51 11 1) ⟨18, [(3, .b false)], [.box 24 (eC24 a0)]⟩ ?_
      refine cutK [] ⟨18, [(3, .b false)], []⟩ h0 ?_
      exact Jj1 false H
  · replace H := iF c1 H
    rw [boF c1]
    refine goK hT 13 (K51 11 1) ⟨18, [(3, .b false)], [.box 24 (eC24 a0)]⟩ ?_
    refine cutK [] ⟨18, [(3, .b false)], []⟩ h0 ?_
    exact Jj1 false H


theorem span_Has.says {t0 : Bool} (a0 : List api_Span) (a1 : Int) {r : Bool} (H : span_Has a0 a1 = some r) : Says Try.prog 27 [] [.d (eL24 t0 a0), .i a1] [] (.b r) := by
  refine says_of Try.func27 rfl (nt := 8) rfl (Nat.le_of_ble_eq_true rfl) fun X hP h0 hX => ?_
  have hT : TabOk X.P T := hP ▸ tok
  have hf : X.P.funcs[27]? = some Try.f27 := hP ▸ Try.func27
  refine goK hT 9 (K27 110 2) ⟨8, [(5, .d (eL24 t0 a0)), (6, .fn 51 [.ptr 0 0 0 0])], [.box 3 [.i a1]]⟩ ?_
  obtain ⟨v1, h1, H⟩ := ibC H
  refine ak_callP (avs := [.d (eL24 t0 a0), .fn 51 [.ptr 0 0 0 0]]) (dst := some 7) (k' := (K27 110 3)) [7] [] hP enters_50 (slices_ContainsFunc_api_Span.says (t0 := t0) (ff1 := 51) (cc1 := [.rop false 1 (fun _ => [.i a1]) 0 0]) a0 (fun z0 => some (span_Has_1 z0 a1)) enters_51 (fun z0 r h => by obtain rfl := retC h; exact span_Has_1.says z0 a1) h1) (by kernel_rfl) (hands_none _) (.cons (pass_d _) (.cons (.fn 51 (.cons (.look (ty := 3) (cs := [.i a1]) (by kernel_rfl) rfl) .nil)) .nil)) (st' := ⟨8, [(7, .b v1)], [.box 3 [.i a1]]⟩) (by kernel_rfl) ?_
  refine goK hT 2 (K27 11 1) ⟨8, [(4, .b v1)], [.box 3 [.i a1]]⟩ ?_
  obtain rfl := retC H
  exact ak_ret hf hX (av := .b v1) (by kernel_rfl) [] (sel_of_eq (by kernel_rfl)) (by decide) (by rw [h0]; rfl) (by kernel_rfl) (fun _ h => all_nil h) (.d (.v _))


theorem spliceref04_Touches.says (a0 : spliceref04_Mut) (a1 : Int) {r : Bool} (H : spliceref04_Touches a0 a1 = some r) : Says Try.prog 28 [] [.d (eG34 a0), .i a1] [] (.b r) := by
  refine says_of Try.func28 rfl (nt := 36) rfl (Nat.le_of_ble_eq_true rfl) fun X hP h0 hX => ?_
  have hT : TabOk X.P T := hP ▸ tok
  have hf : X.P.funcs[28]? = some Try.f28 := hP ▸ Try.func28
  refine goK hT 12 (K28 110 1) ⟨36, [(1, .i a1), (2, .ptr 0 0 0 0), (8, .b (a0.Kind == 2))], [.box 34 (eC34 a0)]⟩ ?_
  by_cases c1 : a0.Kind = 2
  · replace H := iT c1 H
    have Jj1 : ∀ (y1_4 : Bool), (spliceref04_Touches.j1 y1_4) = some r → AK X 28 ((K28 11010 1)) (Back X [] (.b r)) ⟨36, [(4, .b y1_4)], []⟩ := by
      intro y1_4 H
      obtain rfl := retC H
      exact ak_ret hf hX (av := .b y1_4) (by kernel_rfl) [] (sel_of_eq (by kernel_rfl)) (by decide) (by rw [h0]; rfl) (by kernel_rfl) (fun _ h => all_nil h) (.d (.v _))
    rw [eqT c1]
    refine goK hT 9 (K28 110100 6) ⟨36, [(1, .i a1), (2, .ptr 0 0 0 0), (14, .b (decide (a1 ≥ a0.Over.Lo)))], [.box 34 (eC34 a0)]⟩ ?_
    by_cases c2 : a1 ≥ a0.Over.Lo
    · replace H := iT c2 H
      rw [decide_eq_true c2]
      refine goK hT 8 (K28 11010 1) ⟨36, [(4, .b (decide (a1 < a0.Over.Hi)))], [.box 34 (eC34 a0)]⟩ ?_
      refine cutK [] ⟨36, [(4, .b (decide (a1 < a0.Over.Hi)))], []⟩ h0 ?_
      exact Jj1 (decide (a1 < a0.Over.Hi)) H
    · replace H := iF c2 H
      rw [decide_eq_false c2]
      refine goK hT 8 (K28 11010 1) ⟨36, [(4, .b false)], [.box 34 (eC34 a0)]⟩ ?_
      refine cutK [] ⟨36, [(4, .b false)], []⟩ h0 ?_
      exact Jj1 false H
  · replace H := iF c1 H
    rw [eqF c1]
    refine goK hT 2 (K28 11 1) ⟨36, [(1, .i a1), (2, .ptr 0 0 0 0)], [.box 34 (eC34 a0)]⟩ ?_
    refine goK hT 7 (K28 111010 0) ⟨36, [(1, .i a1), (2, .ptr 0 0 0 0), (5, .i 0)], [.box 34 (eC34 a0)]⟩ ?_
    have L : ∀ n, (∀ (x1_5 : Int), iter (spliceref04_Touches.step a0 a1) n (.l1 x1_5) = some r → AK X 28 ((K28 111010 0)) (Back X [] (.b r)) ⟨36, [(1, .i a1), (2, .ptr 0 0 0 0), (5, .i x1_5)], [.box 34 (eC34 a0)]⟩) := by
      intro n
      induction n with
      | zero => exact fun _ H => iter0 H
      | succ n ih =>
        · intro x1_5 H
          refine goK hT 9 (K28 11101000 1) ⟨36, [(1, .i a1), (2, .ptr 0 0 0 0), (5, .i x1_5), (25, .b (decide (x1_5 < (a0.Pairs.length : Int))))], [.box 34 (eC34 a0)]⟩ ?_
          by_cases c3 : x1_5 < (a0.Pairs.length : Int)
          · replace H := sT c3 H
            rw [decide_eq_true c3]
            refine goK hT 2 (K28 1110100 1) ⟨36, [(1, .i a1), (2, .ptr 0 0 0 0), (5, .i x1_5)], [.box 34 (eC34 a0)]⟩ ?_
            refine goK hT 7 (K28 11101001000 3) ⟨36, [(1, .i a1), (2, .ptr 0 0 0 0), (5, .i x1_5), (29, .d (eL79 true a0.Pairs)), (30, .i x1_5)], [.box 34 (eC34 a0)]⟩ ?_
            obtain ⟨h4, H⟩ := sC H
            refine ak_idx hT [1, 2, 5, 31] (i := x1_5) (n := (a0.Pairs.length : Int)) h4.1 h4.2 (k' := (K28 11101001000 4)) (st' := ⟨36, [(1, .i a1), (2, .ptr 0 0 0 0), (5, .i x1_5), (31, .d (eP79 true a0.Pairs x1_5.toNat 0))], [.box 34 (eC34 a0)]⟩) (by kernel_rfl) ?_
            refine goK hT 5 (K28 1110100100 1) ⟨36, [(1, .i a1), (2, .ptr 0 0 0 0), (5, .i x1_5), (35, .b (((a0.Pairs.getD x1_5.toNat spliceref04_Pair.z).Key) == a1))], [.box 34 (eC34 a0)]⟩ ?_
            by_cases c5 : ((a0.Pairs.getD x1_5.toNat spliceref04_Pair.z).Key) = a1
            · replace H := sT c5 H
              rw [eqT c5]
              refine goK hT 5 (K28 111010010010 1) ⟨36, [(4, .b true)], [.box 34 (eC34 a0)]⟩ ?_
              obtain rfl := retC H
              exact ak_ret hf hX (av := .b true) (by kernel_rfl) [] (sel_of_eq (by kernel_rfl)) (by decide) (by rw [h0]; rfl) (by kernel_rfl) (fun _ h => all_nil h) (.d (.v _))
            · replace H := sF c5 H
              rw [eqF c5]
              refine goK hT 3 (K28 11101001 1) ⟨36, [(1, .i a1), (2, .ptr 0 0 0 0), (5, .i x1_5)], [.box 34 (eC34 a0)]⟩ ?_
              refine goK hT 6 (K28 111010 0) ⟨36, [(1, .i a1), (2, .ptr 0 0 0 0), (5, .i (IntKind.wrap .i64 (x1_5 + 1)))], [.box 34 (eC34 a0)]⟩ ?_
              refine cutK [0] ⟨36, [(1, .i a1), (2, .ptr 0 0 0 0), (5, .i (IntKind.wrap .i64 (x1_5 + 1)))], [.box 34 (eC34 a0)]⟩ h0 ?_
              exact ih (IntKind.wrap .i64 (x1_5 + 1)) H
          · replace H := sF c3 H
            rw [decide_eq_false c3]
            refine goK hT 6 (K28 1111 1) ⟨36, [(4, .b false)], [.box 34 (eC34 a0)]⟩ ?_
            obtain rfl := retC H
            exact ak_ret hf hX (av := .b false) (by kernel_rfl) [] (sel_of_eq (by kernel_rfl)) (by decide) (by rw [h0]; rfl) (by kernel_rfl) (fun _ h => all_nil h) (.d (.v _))
    refine cutK [0] ⟨36, [(1, .i a1), (2, .ptr 0 0 0 0), (5, .i 0)], [.box 34 (eC34 a0)]⟩ h0 ?_
    obtain ⟨n, H⟩ := loopC H
    exact (L n) 0 H


theorem span_Count.says {t0 : Bool} (a0 : List api_Span) {r : Int} (H : span_Count a0 = some r) : Says Try.prog 29 [] [.d (eL24 t0 a0)] [] (.i r) := by
  refine says_of Try.func29 rfl (nt := 24) rfl (Nat.le_of_ble_eq_true rfl) fun X hP h0 hX => ?_
  have hT : TabOk X.P T := hP ▸ tok
  have hf : X.P.funcs[29]? = some Try.f29 := hP ▸ Try.func29
  refine goK hT 8 (K29 1100 1) ⟨24, [(0, .d (eL24 t0 a0)), (6, .d (eL24 t0 a0))], []⟩ ?_
  obtain ⟨v1, h1, H⟩ := ibC H
  refine ak_callP (avs := [.d (eL24 t0 a0)]) (dst := some 7) (k' := (K29 1100 2)) [0, 7] [] hP enters_26 (span_Check.says (t0 := t0) a0 h1) (by kernel_rfl) (hands_none _) (.cons (pass_d _) .nil) (st' := ⟨24, [(0, .d (eL24 t0 a0)), (7, .b v1)], []⟩) (by kernel_rfl) ?_
  refine goK hT 2 (K29 110 1) ⟨24, [(0, .d (eL24 t0 a0)), (8, .b (!v1))], []⟩ ?_
  by_cases c2 : v1 = true
  · replace H := iT c2 H
    rw [c2]
    refine goK hT 2 (K29 11 1) ⟨24, [(0, .d (eL24 t0 a0))], []⟩ ?_
    refine goK hT 13 (K29 1111010 0) ⟨24, [(3, .i 0), (9, .d (eL24 t0 a0)), (10, .i (a0.length : Int)), (11, .i 0)], []⟩ ?_
    have L : ∀ n, (∀ (x1_3 : Int) (x1_11 : Int), iter (span_Count.step a0) n (.l1 x1_3 x1_11) = some r → AK X 29 ((K29 1111010 0)) (Back X [] (.i r)) ⟨24, [(3, .i x1_3), (9, .d (eL24 t0 a0)), (10, .i (a0.length : Int)), (11, .i x1_11)], []⟩) := by
      intro n
      induction n with
      | zero => exact fun _ _ H => iter0 H
      | succ n ih =>
        · intro x1_3 x1_11 H
          refine goK hT 5 (K29 111101001 0) ⟨24, [(3, .i x1_3), (9, .d (eL24 t0 a0)), (10, .i (a0.length : Int)), (11, .i x1_11), (12, .b (decide (x1_11 < (a0.length : Int))))], []⟩ ?_
          by_cases c3 : x1_11 < (a0.length : Int)
          · replace H := sT c3 H
            rw [decide_eq_true c3]
            refine goK hT 2 (K29 111101001 1) ⟨24, [(3, .i x1_3), (9, .d (eL24 t0 a0)), (10, .i (a0.length : Int)), (11, .i x1_11)], []⟩ ?_
            refine goK hT 4 (K29 1111010011000 0) ⟨24, [(3, .i x1_3), (9, .d (eL24 t0 a0)), (10, .i (a0.length : Int)), (11, .i x1_11)], []⟩ ?_
            obtain ⟨h4, H⟩ := sC H
            refine ak_idx hT [3, 9, 10, 11, 13] (i := x1_11) (n := (a0.length : Int)) h4.1 h4.2 (k' := (K29 1111010011000 1)) (st' := ⟨24, [(3, .i x1_3), (9, .d (eL24 t0 a0)), (10, .i (a0.length : Int)), (11, .i x1_11), (13, .d (eP24 t0 a0 x1_11.toNat 0))], []⟩) (by kernel_rfl) ?_
            refine goK hT 13 (K29 1111010011001 8) ⟨24, [(3, .i (IntKind.wrap .i64 (x1_3 + (IntKind.wrap .i64 (((a0.getD x1_11.toNat api_Span.z).Hi) - ((a0.getD x1_11.toNat api_Span.z).Lo)))))), (9, .d (eL24 t0 a0)), (10, .i (a0.length : Int)), (11, .i x1_11)], [.box 24 (eC24 (a0.getD x1_11.toNat api_Span.z))]⟩ ?_
            obtain ⟨v2, h5, H⟩ := sdC H
            rw [← h5]
            refine goK hT 7 (K29 1111010 0) ⟨24, [(3, .i v2), (9, .d (eL24 t0 a0)), (10, .i (a0.length : Int)), (11, .i (IntKind.wrap .i64 (x1_11 + 1)))], [.box 24 (eC24 (a0.getD x1_11.toNat api_Span.z))]⟩ ?_
            refine cutK [] ⟨24, [(3, .i v2), (9, .d (eL24 t0 a0)), (10, .i (a0.length : Int)), (11, .i (IntKind.wrap .i64 (x1_11 + 1)))], []⟩ h0 ?_
            exact ih v2 (IntKind.wrap .i64 (x1_11 + 1)) H
          · replace H := sF c3 H
            rw [decide_eq_false c3]
            refine goK hT 7 (K29 11111 1) ⟨24, [(2, .i x1_3)], []⟩ ?_
            obtain rfl := retC H
            exact ak_ret hf hX (av := .i x1_3) (by kernel_rfl) [] (sel_of_eq (by kernel_rfl)) (by decide) (by rw [h0]; rfl) (by kernel_rfl) (fun _ h => all_nil h) (.d (.v _))
    refine cutK [] ⟨24, [(3, .i 0), (9, .d (eL24 t0 a0)), (10, .i (a0.length : Int)), (11, .i 0)], []⟩ h0 ?_
    obtain ⟨n, H⟩ := loopC H
    exact (L n) 0 0 H
  · replace H := iF c2 H
    rw [boF c2]
    refine goK hT 5 (K29 11010 1) ⟨24, [(2, .i 0)], []⟩ ?_
    obtain rfl := retC H
    exact ak_ret hf hX (av := .i 0) (by kernel_rfl) [] (sel_of_eq (by kernel_rfl)) (by decide) (by rw [h0]; rfl) (by kernel_rfl) (fun _ h => all_nil h) (.d (.v _))


theorem splicelaw03_Refs.says {t0 : Bool} (a0 : List api_Span) {r : List spliceref03_Span} (H : splicelaw03_Refs a0 = some r) : Says Try.prog 31 [] [.d (eL24 t0 a0)] [eR32 r] (.own 0 2 0 r.length) := by
  refine says_of Try.func31 rfl (nt := 19) rfl (Nat.le_of_ble_eq_true rfl) fun X hP h0 hX => ?_
  have hT : TabOk X.P T := hP ▸ tok
  have hf : X.P.funcs[31]? = some Try.f31 := hP ▸ Try.func31
  refine goK hT 15 (K31 111010 0) ⟨19, [(0, .d (eL24 t0 a0)), (3, .ns), (4, .i 0)], []⟩ ?_
  refine ak_nilS [0, 3, 4] 3 2 32 (vec spliceref03_Span.e spliceref03_Span.z []) (st' := ⟨19, [(0, .d (eL24 t0 a0)), (3, .own 0 2 0 0), (4, .i 0)], [eR32 ([] : List spliceref03_Span)]⟩) (by kernel_rfl) (by kernel_rfl) ?_
  have L : ∀ n, (∀ (x1_4 : Int) (x1_r0 : List spliceref03_Span), iter (splicelaw03_Refs.step a0) n (.l1 x1_4 x1_r0) = some r → AK X 31 ((K31 111010 0)) (Back X [eR32 r] (.own 0 2 0 r.length)) ⟨19, [(0, .d (eL24 t0 a0)), (3, .own 0 2 0 x1_r0.length), (4, .i x1_4)], [eR32 x1_r0]⟩) := by
    intro n
    induction n with
    | zero => exact fun _ _ H => iter0 H
    | succ n ih =>
      · intro x1_4 x1_r0 H
        refine goK hT 8 (K31 11101000 1) ⟨19, [(0, .d (eL24 t0 a0)), (3, .own 0 2 0 x1_r0.length), (4, .i x1_4), (8, .b (decide (x1_4 < (a0.length : Int))))], [eR32 x1_r0]⟩ ?_
        by_cases c1 : x1_4 < (a0.length : Int)
        · replace H := sT c1 H
          rw [decide_eq_true c1]
          refine goK hT 2 (K31 1110100 1) ⟨19, [(0, .d (eL24 t0 a0)), (3, .own 0 2 0 x1_r0.length), (4, .i x1_4)], [eR32 x1_r0]⟩ ?_
          refine goK hT 6 (K31 1110100100 3) ⟨19, [(0, .d (eL24 t0 a0)), (4, .i x1_4), (11, .own 0 2 0 x1_r0.length), (12, .d (eL24 t0 a0)), (13, .i x1_4)], [eR32 x1_r0]⟩ ?_
          obtain ⟨h2, H⟩ := sC H
          refine ak_idx hT [0, 4, 11, 14] (i := x1_4) (n := (a0.length : Int)) h2.1 h2.2 (k' := (K31 1110100100 4)) (st' := ⟨19, [(0, .d (eL24 t0 a0)), (4, .i x1_4), (11, .own 0 2 0 x1_r0.length), (14, .d (eP24 t0 a0 x1_4.toNat 0))], [eR32 x1_r0]⟩) (by kernel_rfl) ?_
          refine goK hT 2 (K31 1110100100 6) ⟨19, [(0, .d (eL24 t0 a0)), (4, .i x1_4), (11, .own 0 2 0 x1_r0.length), (16, .own 1 2 0 1)], [eR32 x1_r0, .flat false 2 32 1 (fun j => [api_Span.e (a0.getD x1_4.toNat api_Span.z)].getD j [])]⟩ ?_
          obtain ⟨h3, H⟩ := sC H
          refine ak_append1 (id := 0) (kk := 2) (by' := 16) (t := 55) (e := 32) (z := [.int .i64 0, .int .i64 0]) (dst := some 17) (id2 := 1) (e2 := 32) (fz := false) (k' := (K31 1110100100 7)) hT spliceref03_Span.e spliceref03_Span.z x1_r0 (⟨(a0.getD x1_4.toNat api_Span.z).Lo, (a0.getD x1_4.toNat api_Span.z).Hi⟩ : spliceref03_Span) [0, 4, 17] (by kernel_rfl) (by kernel_rfl) (by kernel_rfl) (by kernel_rfl) (by kernel_rfl) (by kernel_rfl) (by kernel_rfl) h3 (by omega) (st' := ⟨19, [(0, .d (eL24 t0 a0)), (4, .i x1_4), (17, .own 2 2 0 ((x1_r0 ++ [(⟨(a0.getD x1_4.toNat api_Span.z).Lo, (a0.getD x1_4.toNat api_Span.z).Hi⟩ : spliceref03_Span)]).length))], [.gone, .flat false 2 32 1 (fun j => [api_Span.e (a0.getD x1_4.toNat api_Span.z)].getD j []), eR32 (x1_r0 ++ [(⟨(a0.getD x1_4.toNat api_Span.z).Lo, (a0.getD x1_4.toNat api_Span.z).Hi⟩ : spliceref03_Span)])]⟩) (by kernel_rfl) ?_
          refine goK hT 9 (K31 111010 0) ⟨19, [(0, .d (eL24 t0 a0)), (3, .own 2 2 0 ((x1_r0 ++ [(⟨(a0.getD x1_4.toNat api_Span.z).Lo, (a0.getD x1_4.toNat api_Span.z).Hi⟩ : spliceref03_Span)]).length)), (4, .i (IntKind.wrap .i64 (x1_4 + 1)))], [.gone, .flat false 2 32 1 (fun j => [api_Span.e (a0.getD x1_4.toNat api_Span.z)].getD j []), eR32 (x1_r0 ++ [(⟨(a0.getD x1_4.toNat api_Span.z).Lo, (a0.getD x1_4.toNat api_Span.z).Hi⟩ : spliceref03_Span)])]⟩ ?_
          refine cutK [2] ⟨19, [(0, .d (eL24 t0 a0)), (3, .own 0 2 0 (x1_r0 ++ [(⟨(a0.getD x1_4.toNat api_Span.z).Lo, (a0.getD x1_4.toNat api_Span.z).Hi⟩ : spliceref03_Span)]).length), (4, .i (IntKind.wrap .i64 (x1_4 + 1)))], [eR32 (x1_r0 ++ [(⟨(a0.getD x1_4.toNat api_Span.z).Lo, (a0.getD x1_4.toNat api_Span.z).Hi⟩ : spliceref03_Span)])]⟩ h0 ?_
          exact ih (IntKind.wrap .i64 (x1_4 + 1)) (x1_r0 ++ [(⟨(a0.getD x1_4.toNat api_Span.z).Lo, (a0.getD x1_4.toNat api_Span.z).Hi⟩ : spliceref03_Span)]) H
        · replace H := sF c1 H
          rw [decide_eq_false c1]
          refine goK hT 7 (K31 1111 1) ⟨19, [(2, .own 0 2 0 x1_r0.length)], [eR32 x1_r0]⟩ ?_
          obtain rfl := retC H
          exact ak_ret hf hX (av := .own 0 2 0 x1_r0.length) (by kernel_rfl) [0] (sel_of_eq (by kernel_rfl)) (by decide) (by rw [h0]; rfl) (by kernel_rfl) (fun _ h => all_cons (nr_vec spliceref03_Span.nl) (fun _ h => all_nil h) h) (.own _ _ _ _)
  refine cutK [0] ⟨19, [(0, .d (eL24 t0 a0)), (3, .own 0 2 0 ([] : List spliceref03_Span).length), (4, .i 0)], [eR32 ([] : List spliceref03_Span)]⟩ h0 ?_
  obtain ⟨n, H⟩ := loopC H
  exact (L n) 0 ([] : List spliceref03_Span) H


theorem spliceref03_Keys.says {t0 : Bool} (a0 : List spliceref03_Span) {r : List Bool} (H : spliceref03_Keys a0 = some r) : Says Try.prog 75 [] [.d (eL32 t0 a0)] [eR4 r] (.own 0 1 0 r.length) := by
  refine says_of Try.func75 rfl (nt := 45) rfl (Nat.le_of_ble_eq_true rfl) fun X hP h0 hX => ?_
  have hT : TabOk X.P T := hP ▸ tok
  have hf : X.P.funcs[75]? = some Try.f75 := hP ▸ Try.func75
  refine goK hT 15 (K75 111010 0) ⟨45, [(0, .d (eL32 t0 a0)), (3, .ns), (4, .i 0)], []⟩ ?_
  refine ak_nilS [0, 3, 4] 3 1 4 (vec eB false []) (st' := ⟨45, [(0, .d (eL32 t0 a0)), (3, .own 0 1 0 0), (4, .i 0)], [eR4 ([] : List Bool)]⟩) (by kernel_rfl) (by kernel_rfl) ?_
  have L : ∀ n, (∀ (x1_4 : Int) (x1_r0 : List Bool), iter (spliceref03_Keys.step a0) n (.l1 x1_4 x1_r0) = some r → AK X 75 ((K75 111010 0)) (Back X [eR4 r] (.own 0 1 0 r.length)) ⟨45, [(0, .d (eL32 t0 a0)), (3, .own 0 1 0 x1_r0.length), (4, .i x1_4)], [eR4 x1_r0]⟩) ∧ (∀ (x2_5 : Int) (x2_r0 : List Bool), iter (spliceref03_Keys.step a0) n (.l2 x2_5 x2_r0) = some r → AK X 75 ((K75 1111010 0)) (Back X [eR4 r] (.own 0 1 0 r.length)) ⟨45, [(0, .d (eL32 t0 a0)), (3, .own 0 1 0 x2_r0.length), (5, .i x2_5)], [eR4 x2_r0]⟩) ∧ (∀ (x3_5 : Int) (x3_6 : Int) (x3_r0 : List Bool), iter (spliceref03_Keys.step a0) n (.l3 x3_5 x3_6 x3_r0) = some r → AK X 75 ((K75 1111010010010 0)) (Back X [eR4 r] (.own 0 1 0 r.length)) ⟨45, [(0, .d (eL32 t0 a0)), (3, .own 0 1 0 x3_r0.length), (5, .i x3_5), (6, .i x3_6)], [eR4 x3_r0]⟩) := by
    intro n
    induction n with
    | zero => exact ⟨fun _ _ H => iter0 H, fun _ _ H => iter0 H, fun _ _ _ H => iter0 H⟩
    | succ n ih =>
      refine ⟨?_, ?_, ?_⟩
      · intro x1_4 x1_r0 H
        refine goK hT 6 (K75 11101000 1) ⟨45, [(0, .d (eL32 t0 a0)), (3, .own 0 1 0 x1_r0.length), (4, .i x1_4), (8, .b (decide (x1_4 < 4096)))], [eR4 x1_r0]⟩ ?_
        by_cases c1 : x1_4 < 4096
        · replace H := sT c1 H
          rw [decide_eq_true c1]
          refine goK hT 2 (K75 1110100 1) ⟨45, [(0, .d (eL32 t0 a0)), (3, .own 0 1 0 x1_r0.length), (4, .i x1_4)], [eR4 x1_r0]⟩ ?_
          refine goK hT 5 (K75 1110100100 2) ⟨45, [(0, .d (eL32 t0 a0)), (4, .i x1_4), (11, .own 0 1 0 x1_r0.length), (12, .own 1 1 0 1)], [eR4 x1_r0, .flat false 1 4 1 (fun j => [[.b false]].getD j [])]⟩ ?_
          obtain ⟨h2, H⟩ := sC H
          refine ak_append1 (id := 0) (kk := 1) (by' := 1) (t := 111) (e := 4) (z := [.bool false]) (dst := some 13) (id2 := 1) (e2 := 4) (fz := false) (k' := (K75 1110100100 3)) hT eB false x1_r0 false [0, 4, 13] (by kernel_rfl) (by kernel_rfl) (by kernel_rfl) (by kernel_rfl) (by kernel_rfl) (by kernel_rfl) (by kernel_rfl) h2 (by omega) (st' := ⟨45, [(0, .d (eL32 t0 a0)), (4, .i x1_4), (13, .own 2 1 0 ((x1_r0 ++ [false]).length))], [.gone, .flat false 1 4 1 (fun j => [[.b false]].getD j []), eR4 (x1_r0 ++ [false])]⟩) (by kernel_rfl) ?_
          refine goK hT 9 (K75 111010 0) ⟨45, [(0, .d (eL32 t0 a0)), (3, .own 2 1 0 ((x1_r0 ++ [false]).length)), (4, .i (IntKind.wrap .i64 (x1_4 + 1)))], [.gone, .flat false 1 4 1 (fun j => [[.b false]].getD j []), eR4 (x1_r0 ++ [false])]⟩ ?_
          refine cutK [2] ⟨45, [(0, .d (eL32 t0 a0)), (3, .own 0 1 0 (x1_r0 ++ [false]).length), (4, .i (IntKind.wrap .i64 (x1_4 + 1)))], [eR4 (x1_r0 ++ [false])]⟩ h0 ?_
          exact ih.1 (IntKind.wrap .i64 (x1_4 + 1)) (x1_r0 ++ [false]) H
        · replace H := sF c1 H
          rw [decide_eq_false c1]
          refine goK hT 9 (K75 1111010 0) ⟨45, [(0, .d (eL32 t0 a0)), (3, .own 0 1 0 x1_r0.length), (5, .i 0)], [eR4 x1_r0]⟩ ?_
          refine cutK [0] ⟨45, [(0, .d (eL32 t0 a0)), (3, .own 0 1 0 x1_r0.length), (5, .i 0)], [eR4 x1_r0]⟩ h0 ?_
          exact ih.2.1 0 x1_r0 H
      · intro x2_5 x2_r0 H
        refine goK hT 8 (K75 111101000 1) ⟨45, [(0, .d (eL32 t0 a0)), (3, .own 0 1 0 x2_r0.length), (5, .i x2_5), (17, .b (decide (x2_5 < (a0.length : Int))))], [eR4 x2_r0]⟩ ?_
        by_cases c3 : x2_5 < (a0.length : Int)
        · replace H := sT c3 H
          rw [decide_eq_true c3]
          refine goK hT 2 (K75 11110100 1) ⟨45, [(0, .d (eL32 t0 a0)), (3, .own 0 1 0 x2_r0.length), (5, .i x2_5)], [eR4 x2_r0]⟩ ?_
          refine goK hT 6 (K75 111101001000 2) ⟨45, [(0, .d (eL32 t0 a0)), (3, .own 0 1 0 x2_r0.length), (5, .i x2_5), (20, .d (eL32 t0 a0)), (21, .i x2_5)], [eR4 x2_r0]⟩ ?_
          obtain ⟨h4, H⟩ := sC H
          refine ak_idx hT [0, 3, 5, 22] (i := x2_5) (n := (a0.length : Int)) h4.1 h4.2 (k' := (K75 111101001000 3)) (st' := ⟨45, [(0, .d (eL32 t0 a0)), (3, .own 0 1 0 x2_r0.length), (5, .i x2_5), (22, .d (eP32 t0 a0 x2_5.toNat 0))], [eR4 x2_r0]⟩) (by kernel_rfl) ?_
          refine goK hT 6 (K75 1111010010010 0) ⟨45, [(0, .d (eL32 t0 a0)), (3, .own 0 1 0 x2_r0.length), (5, .i x2_5), (6, .i ((a0.getD x2_5.toNat spliceref03_Span.z).Lo))], [eR4 x2_r0]⟩ ?_
          refine cutK [0] ⟨45, [(0, .d (eL32 t0 a0)), (3, .own 0 1 0 x2_r0.length), (5, .i x2_5), (6, .i ((a0.getD x2_5.toNat spliceref03_Span.z).Lo))], [eR4 x2_r0]⟩ h0 ?_
          exact ih.2.2 x2_5 ((a0.getD x2_5.toNat spliceref03_Span.z).Lo) x2_r0 H
        · replace H := sF c3 H
          rw [decide_eq_false c3]
          refine goK hT 7 (K75 11111 1) ⟨45, [(2, .own 0 1 0 x2_r0.length)], [eR4 x2_r0]⟩ ?_
          obtain rfl := retC H
          exact ak_ret hf hX (av := .own 0 1 0 x2_r0.length) (by kernel_rfl) [0] (sel_of_eq (by kernel_rfl)) (by decide) (by rw [h0]; rfl) (by kernel_rfl) (fun _ h => all_cons (nr_vec nlB) (fun _ h => all_nil h) h) (.own _ _ _ _)
      · intro x3_5 x3_6 x3_r0 H
        refine goK hT 5 (K75 1111010010010000 2) ⟨45, [(0, .d (eL32 t0 a0)), (3, .own 0 1 0 x3_r0.length), (5, .i x3_5), (6, .i x3_6), (25, .d (eL32 t0 a0)), (26, .i x3_5)], [eR4 x3_r0]⟩ ?_
        obtain ⟨h5, H⟩ := sC H
        have Jj1 : ∀ (y1_38 : Bool), stk (spliceref03_Keys.j1 x3_5 x3_6 x3_r0 y1_38) (iter (spliceref03_Keys.step a0) n) = some r → AK X 75 ((K75 111101001001000 1)) (Back X [eR4 r] (.own 0 1 0 r.length)) ⟨45, [(0, .d (eL32 t0 a0)), (3, .own 0 1 0 x3_r0.length), (5, .i x3_5), (6, .i x3_6), (38, .b y1_38)], [eR4 x3_r0]⟩ := by
          intro y1_38 H
          by_cases c7 : y1_38 = true
          · replace H := sT c7 H
            rw [c7]
            refine goK hT 2 (K75 11110100100100 1) ⟨45, [(0, .d (eL32 t0 a0)), (3, .own 0 1 0 x3_r0.length), (5, .i x3_5), (6, .i x3_6)], [eR4 x3_r0]⟩ ?_
            refine goK hT 5 (K75 11110100100100100 2) ⟨45, [(0, .d (eL32 t0 a0)), (3, .own 0 1 0 x3_r0.length), (5, .i x3_5), (6, .i x3_6), (41, .own 0 1 0 x3_r0.length), (42, .i x3_6)], [eR4 x3_r0]⟩ ?_
            obtain ⟨h8, H⟩ := sC H
            refine ak_idx hT [0, 3, 5, 6, 43] (i := x3_6) (n := (x3_r0.length : Int)) h8.1 h8.2 (k' := (K75 11110100100100100 3)) (st' := ⟨45, [(0, .d (eL32 t0 a0)), (3, .own 0 1 0 x3_r0.length), (5, .i x3_5), (6, .i x3_6), (43, .ptr 0 1 x3_6.toNat 0)], [eR4 x3_r0]⟩) (by kernel_rfl) ?_
            refine ak_st (id := 0) (kk := 1) (i := x3_6.toNat) (off := 0) (s := 1) (n := x3_r0.length) (ty := 4) (ds := [.b true]) (g := vec eB false x3_r0) (k' := (K75 11110100100100100 4)) hT [0, 3, 5, 6] (vec eB false (x3_r0.set x3_6.toNat true)) (by kernel_rfl) (by kernel_rfl) (ltN h8.1 h8.2) ((vec_set (ltN h8.1 h8.2)).trans (by kernel_rfl)) vec_set_ne (st' := ⟨45, [(0, .d (.sl t0 a0.length (vec spliceref03_Span.e spliceref03_Span.z a0))), (3, .own 0 1 0 (x3_r0.length)), (5, .i x3_5), (6, .i x3_6)], [.flat false 1 4 x3_r0.length (vec eB false (x3_r0.set x3_6.toNat true))]⟩) (by kernel_rfl) ?_
            refine ak_eq (show x3_r0.length = (x3_r0.set x3_6.toNat true).length from (List.length_set ..).symm) (fun nn => ⟨45, [(0, .d (.sl t0 a0.length (vec spliceref03_Span.e spliceref03_Span.z a0))), (3, .own 0 1 0 (nn)), (5, .i x3_5), (6, .i x3_6)], [.flat false 1 4 nn (vec eB false (x3_r0.set x3_6.toNat true))]⟩) ?_
            refine goK hT 8 (K75 1111010010010 0) ⟨45, [(0, .d (eL32 t0 a0)), (3, .own 0 1 0 ((x3_r0.set x3_6.toNat true).length)), (5, .i x3_5), (6, .i (IntKind.wrap .i64 (x3_6 + 1)))], [eR4 (x3_r0.set x3_6.toNat true)]⟩ ?_
            refine cutK [0] ⟨45, [(0, .d (eL32 t0 a0)), (3, .own 0 1 0 (x3_r0.set x3_6.toNat true).length), (5, .i x3_5), (6, .i (IntKind.wrap .i64 (x3_6 + 1)))], [eR4 (x3_r0.set x3_6.toNat true)]⟩ h0 ?_
            exact ih.2.2 x3_5 (IntKind.wrap .i64 (x3_6 + 1)) (x3_r0.set x3_6.toNat true) H
          · replace H := sF c7 H
            rw [boF c7]
            refine goK hT 9 (K75 1111010 0) ⟨45, [(0, .d (eL32 t0 a0)), (3, .own 0 1 0 x3_r0.length), (5, .i (IntKind.wrap .i64 (x3_5 + 1)))], [eR4 x3_r0]⟩ ?_
            refine cutK [0] ⟨45, [(0, .d (eL32 t0 a0)), (3, .own 0 1 0 x3_r0.length), (5, .i (IntKind.wrap .i64 (x3_5 + 1)))], [eR4 x3_r0]⟩ h0 ?_
            exact ih.2.1 (IntKind.wrap .i64 (x3_5 + 1)) x3_r0 H
        refine ak_idx hT [0, 3, 5, 6, 27] (i := x3_5) (n := (a0.length : Int)) h5.1 h5.2 (k' := (K75 1111010010010000 3)) (st' := ⟨45, [(0, .d (eL32 t0 a0)), (3, .own 0 1 0 x3_r0.length), (5, .i x3_5), (6, .i x3_6), (27, .d (eP32 t0 a0 x3_5.toNat 0))], [eR4 x3_r0]⟩) (by kernel_rfl) ?_
        refine goK hT 1 (K75 1111010010010000 4) ⟨45, [(0, .d (eL32 t0 a0)), (3, .own 0 1 0 x3_r0.length), (5, .i x3_5), (6, .i x3_6), (28, .d (eG32 (a0.getD x3_5.toNat spliceref03_Span.z)))], [eR4 x3_r0]⟩ ?_
        refine ak_callP (avs := [.d (eG32 (a0.getD x3_5.toNat spliceref03_Span.z))]) (dst := some 29) (k' := (K75 1111010010010000 5)) [0, 3, 5, 6, 29] [] hP enters_41 (spliceref03_One.says (a0.getD x3_5.toNat spliceref03_Span.z)) (by kernel_rfl) (hands_none _) (.cons (pass_d _) .nil) (st' := ⟨45, [(0, .d (eL32 t0 a0)), (3, .own 0 1 0 x3_r0.length), (5, .i x3_5), (6, .i x3_6), (29, .b (spliceref03_One (a0.getD x3_5.toNat spliceref03_Span.z)))], [eR4 x3_r0]⟩) (by kernel_rfl) ?_
        refine goK hT 1 (K75 1111010010010000 6) ⟨45, [(0, .d (eL32 t0 a0)), (3, .own 0 1 0 x3_r0.length), (5, .i x3_5), (6, .i x3_6), (30, .b (spliceref03_One (a0.getD x3_5.toNat spliceref03_Span.z)))], [eR4 x3_r0]⟩ ?_
        by_cases c6 : (spliceref03_One (a0.getD x3_5.toNat spliceref03_Span.z)) = true
        · replace H := sT c6 H
          rw [c6]
          refine goK hT 3 (K75 1111010010010000 9) ⟨45, [(0, .d (eL32 t0 a0)), (3, .own 0 1 0 x3_r0.length), (5, .i x3_5), (6, .i x3_6), (30, .b true), (31, .i x3_6), (32, .d (eL32 t0 a0)), (33, .i x3_5)], [eR4 x3_r0]⟩ ?_
          refine ak_idx hT [0, 3, 5, 6, 30, 31, 34] (i := x3_5) (n := (a0.length : Int)) h5.1 h5.2 (k' := (K75 1111010010010000 10)) (st' := ⟨45, [(0, .d (eL32 t0 a0)), (3, .own 0 1 0 x3_r0.length), (5, .i x3_5), (6, .i x3_6), (30, .b true), (31, .i x3_6), (34, .d (eP32 t0 a0 x3_5.toNat 0))], [eR4 x3_r0]⟩) (by kernel_rfl) ?_
          refine goK hT 5 (K75 111101001001000 1) ⟨45, [(0, .d (eL32 t0 a0)), (3, .own 0 1 0 x3_r0.length), (5, .i x3_5), (6, .i x3_6), (38, .b (decide (x3_6 < ((a0.getD x3_5.toNat spliceref03_Span.z).Hi))))], [eR4 x3_r0]⟩ ?_
          refine cutK [0] ⟨45, [(0, .d (eL32 t0 a0)), (3, .own 0 1 0 x3_r0.length), (5, .i x3_5), (6, .i x3_6), (38, .b (decide (x3_6 < ((a0.getD x3_5.toNat spliceref03_Span.z).Hi))))], [eR4 x3_r0]⟩ h0 ?_
          exact Jj1 (decide (x3_6 < ((a0.getD x3_5.toNat spliceref03_Span.z).Hi))) H
        · replace H := sF c6 H
          rw [boF c6]
          refine goK hT 9 (K75 111101001001000 1) ⟨45, [(0, .d (eL32 t0 a0)), (3, .own 0 1 0 x3_r0.length), (5, .i x3_5), (6, .i x3_6), (38, .b false)], [eR4 x3_r0]⟩ ?_
          refine cutK [0] ⟨45, [(0, .d (eL32 t0 a0)), (3, .own 0 1 0 x3_r0.length), (5, .i x3_5), (6, .i x3_6), (38, .b false)], [eR4 x3_r0]⟩ h0 ?_
          exact Jj1 false H
  refine cutK [0] ⟨45, [(0, .d (eL32 t0 a0)), (3, .own 0 1 0 ([] : List Bool).length), (4, .i 0)], [eR4 ([] : List Bool)]⟩ h0 ?_
  obtain ⟨n, H⟩ := loopC H
  exact (L n).1 0 ([] : List Bool) H


theorem spliceref03_Set.says {t0 : Bool} (a0 : List Bool) {r : (List spliceref03_Span) × Int} (H : spliceref03_Set a0 = some r) : Says Try.prog 74 [] [.d (eL4 t0 a0)] [eR32 r.1] (.tup [.own 0 2 0 r.1.length, .i r.2]) := by
  refine says_of Try.func74 rfl (nt := 39) rfl (Nat.le_of_ble_eq_true rfl) fun X hP h0 hX => ?_
  have hT : TabOk X.P T := hP ▸ tok
  have hf : X.P.funcs[74]? = some Try.f74 := hP ▸ Try.func74
  refine goK hT 16 (K74 111100 0) ⟨39, [(0, .d (eL4 t0 a0)), (4, .ns), (5, .i 0)], []⟩ ?_
  refine ak_nilS [0, 4, 5] 4 2 32 (vec spliceref03_Span.e spliceref03_Span.z []) (st' := ⟨39, [(0, .d (eL4 t0 a0)), (4, .own 0 2 0 0), (5, .i 0)], [eR32 ([] : List spliceref03_Span)]⟩) (by kernel_rfl) (by kernel_rfl) ?_
  have L : ∀ n, (∀ (x1_5 : Int) (x1_r0 : List spliceref03_Span), iter (spliceref03_Set.step a0) n (.l1 x1_5 x1_r0) = some r → AK X 74 ((K74 111100 0)) (Back X [eR32 r.1] (.tup [.own 0 2 0 r.1.length, .i r.2])) ⟨39, [(0, .d (eL4 t0 a0)), (4, .own 0 2 0 x1_r0.length), (5, .i x1_5)], [eR32 x1_r0]⟩) ∧ (∀ (x2_5 : Int) (x2_6 : Int) (x2_r0 : List spliceref03_Span), iter (spliceref03_Set.step a0) n (.l2 x2_5 x2_6 x2_r0) = some r → AK X 74 ((K74 111100010100 0)) (Back X [eR32 r.1] (.tup [.own 0 2 0 r.1.length, .i r.2])) ⟨39, [(0, .d (eL4 t0 a0)), (4, .own 0 2 0 x2_r0.length), (5, .i x2_5), (6, .i x2_6)], [eR32 x2_r0]⟩) := by
    intro n
    induction n with
    | zero => exact ⟨fun _ _ H => iter0 H, fun _ _ _ H => iter0 H⟩
    | succ n ih =>
      refine ⟨?_, ?_⟩
      · intro x1_5 x1_r0 H
        refine goK hT 8 (K74 11110000 1) ⟨39, [(0, .d (eL4 t0 a0)), (4, .own 0 2 0 x1_r0.length), (5, .i x1_5), (10, .b (decide (x1_5 < (a0.length : Int))))], [eR32 x1_r0]⟩ ?_
        by_cases c1 : x1_5 < (a0.length : Int)
        · replace H := sT c1 H
          rw [decide_eq_true c1]
          refine goK hT 2 (K74 1111000 1) ⟨39, [(0, .d (eL4 t0 a0)), (4, .own 0 2 0 x1_r0.length), (5, .i x1_5)], [eR32 x1_r0]⟩ ?_
          refine goK hT 9 (K74 111100010100 0) ⟨39, [(0, .d (eL4 t0 a0)), (4, .own 0 2 0 x1_r0.length), (5, .i x1_5), (6, .i x1_5)], [eR32 x1_r0]⟩ ?_
          refine cutK [0] ⟨39, [(0, .d (eL4 t0 a0)), (4, .own 0 2 0 x1_r0.length), (5, .i x1_5), (6, .i x1_5)], [eR32 x1_r0]⟩ h0 ?_
          exact ih.2 x1_5 x1_5 x1_r0 H
        · replace H := sF c1 H
          rw [decide_eq_false c1]
          refine goK hT 9 (K74 111110 1) ⟨39, [(4, .own 0 2 0 x1_r0.length), (37, .b (decide ((x1_r0.length : Int) > 64)))], [eR32 x1_r0]⟩ ?_
          by_cases c2 : (x1_r0.length : Int) > 64
          · replace H := sT c2 H
            rw [decide_eq_true c2]
            refine goK hT 6 (K74 11111010 1) ⟨39, [(2, .ns), (3, .i 2)], [eR32 x1_r0]⟩ ?_
            refine ak_nilS [2, 3] 2 2 32 (vec spliceref03_Span.e spliceref03_Span.z []) (st' := ⟨39, [(2, .own 1 2 0 0), (3, .i 2)], [eR32 x1_r0, eR32 ([] : List spliceref03_Span)]⟩) (by kernel_rfl) (by kernel_rfl) ?_
            obtain rfl := retC H
            exact ak_ret hf hX (av := .tup [.own 1 2 0 0, .i 2]) (by kernel_rfl) [1] (sel_of_eq (by kernel_rfl)) (by decide) (by rw [h0]; rfl) (by kernel_rfl) (fun _ h => all_cons (nr_vec spliceref03_Span.nl) (fun _ h => all_nil h) h) (.tup (.cons (.own _ _ _ _) (.cons (.d (.v _)) .nil)))
          · replace H := sF c2 H
            rw [decide_eq_false c2]
            refine goK hT 2 (K74 11111 1) ⟨39, [(4, .own 0 2 0 x1_r0.length)], [eR32 x1_r0]⟩ ?_
            refine goK hT 6 (K74 111111 1) ⟨39, [(2, .own 0 2 0 x1_r0.length), (3, .i 0)], [eR32 x1_r0]⟩ ?_
            obtain rfl := retC H
            exact ak_ret hf hX (av := .tup [.own 0 2 0 x1_r0.length, .i 0]) (by kernel_rfl) [0] (sel_of_eq (by kernel_rfl)) (by decide) (by rw [h0]; rfl) (by kernel_rfl) (fun _ h => all_cons (nr_vec spliceref03_Span.nl) (fun _ h => all_nil h) h) (.tup (.cons (.own _ _ _ _) (.cons (.d (.v _)) .nil)))
      · intro x2_5 x2_6 x2_r0 H
        have Jj1 : ∀ (y1_21 : Bool), stk (spliceref03_Set.j1 x2_5 x2_6 x2_r0 y1_21) (iter (spliceref03_Set.step a0) n) = some r → AK X 74 ((K74 11110001010000 1)) (Back X [eR32 r.1] (.tup [.own 0 2 0 r.1.length, .i r.2])) ⟨39, [(0, .d (eL4 t0 a0)), (4, .own 0 2 0 x2_r0.length), (5, .i x2_5), (6, .i x2_6), (21, .b y1_21)], [eR32 x2_r0]⟩ := by
          intro y1_21 H
          by_cases c5 : y1_21 = true
          · replace H := sT c5 H
            rw [c5]
            refine goK hT 2 (K74 1111000101000 1) ⟨39, [(0, .d (eL4 t0 a0)), (4, .own 0 2 0 x2_r0.length), (5, .i x2_5), (6, .i x2_6)], [eR32 x2_r0]⟩ ?_
            refine goK hT 8 (K74 111100010100 0) ⟨39, [(0, .d (eL4 t0 a0)), (4, .own 0 2 0 x2_r0.length), (5, .i (IntKind.wrap .i64 (x2_5 + 1))), (6, .i x2_6)], [eR32 x2_r0]⟩ ?_
            refine cutK [0] ⟨39, [(0, .d (eL4 t0 a0)), (4, .own 0 2 0 x2_r0.length), (5, .i (IntKind.wrap .i64 (x2_5 + 1))), (6, .i x2_6)], [eR32 x2_r0]⟩ h0 ?_
            exact ih.2 (IntKind.wrap .i64 (x2_5 + 1)) x2_6 x2_r0 H
          · replace H := sF c5 H
            rw [boF c5]
            refine goK hT 8 (K74 11110001011 1) ⟨39, [(0, .d (eL4 t0 a0)), (4, .own 0 2 0 x2_r0.length), (5, .i x2_5), (6, .i x2_6), (26, .b (decide (x2_5 > x2_6)))], [eR32 x2_r0]⟩ ?_
            by_cases c6 : x2_5 > x2_6
            · replace H := sT c6 H
              rw [decide_eq_true c6]
              refine goK hT 7 (K74 1111000101110 5) ⟨39, [(0, .d (eL4 t0 a0)), (5, .i x2_5), (27, .own 0 2 0 x2_r0.length), (31, .own 1 2 0 1)], [eR32 x2_r0, .flat false 2 32 1 (fun j => [[.i x2_6, .i x2_5]].getD j [])]⟩ ?_
              obtain ⟨h7, H⟩ := sC H
              refine ak_append1 (id := 0) (kk := 2) (by' := 16) (t := 55) (e := 32) (z := [.int .i64 0, .int .i64 0]) (dst := some 32) (id2 := 1) (e2 := 32) (fz := false) (k' := (K74 1111000101110 6)) hT spliceref03_Span.e spliceref03_Span.z x2_r0 (⟨x2_6, x2_5⟩ : spliceref03_Span) [0, 5, 32] (by kernel_rfl) (by kernel_rfl) (by kernel_rfl) (by kernel_rfl) (by kernel_rfl) (by kernel_rfl) (by kernel_rfl) h7 (by omega) (st' := ⟨39, [(0, .d (eL4 t0 a0)), (5, .i x2_5), (32, .own 2 2 0 ((x2_r0 ++ [(⟨x2_6, x2_5⟩ : spliceref03_Span)]).length))], [.gone, .flat false 2 32 1 (fun j => [[.i x2_6, .i x2_5]].getD j []), eR32 (x2_r0 ++ [(⟨x2_6, x2_5⟩ : spliceref03_Span)])]⟩) (by kernel_rfl) ?_
              refine goK hT 4 (K74 111100 0) ⟨39, [(0, .d (eL4 t0 a0)), (4, .own 2 2 0 ((x2_r0 ++ [(⟨x2_6, x2_5⟩ : spliceref03_Span)]).length)), (5, .i x2_5)], [.gone, .flat false 2 32 1 (fun j => [[.i x2_6, .i x2_5]].getD j []), eR32 (x2_r0 ++ [(⟨x2_6, x2_5⟩ : spliceref03_Span)])]⟩ ?_
              refine cutK [2] ⟨39, [(0, .d (eL4 t0 a0)), (4, .own 0 2 0 (x2_r0 ++ [(⟨x2_6, x2_5⟩ : spliceref03_Span)]).length), (5, .i x2_5)], [eR32 (x2_r0 ++ [(⟨x2_6, x2_5⟩ : spliceref03_Span)])]⟩ h0 ?_
              exact ih.1 x2_5 (x2_r0 ++ [(⟨x2_6, x2_5⟩ : spliceref03_Span)]) H
            · replace H := sF c6 H
              rw [decide_eq_false c6]
              refine goK hT 8 (K74 111100 0) ⟨39, [(0, .d (eL4 t0 a0)), (4, .own 0 2 0 x2_r0.length), (5, .i (IntKind.wrap .i64 (x2_5 + 1)))], [eR32 x2_r0]⟩ ?_
              refine cutK [0] ⟨39, [(0, .d (eL4 t0 a0)), (4, .own 0 2 0 x2_r0.length), (5, .i (IntKind.wrap .i64 (x2_5 + 1)))], [eR32 x2_r0]⟩ h0 ?_
              exact ih.1 (IntKind.wrap .i64 (x2_5 + 1)) x2_r0 H
        refine goK hT 8 (K74 111100010100000 5) ⟨39, [(0, .d (eL4 t0 a0)), (4, .own 0 2 0 x2_r0.length), (5, .i x2_5), (6, .i x2_6), (16, .b (decide (x2_5 < (a0.length : Int))))], [eR32 x2_r0]⟩ ?_
        by_cases c3 : x2_5 < (a0.length : Int)
        · replace H := sT c3 H
          rw [decide_eq_true c3]
          refine goK hT 2 (K74 111100010100000 7) ⟨39, [(0, .d (eL4 t0 a0)), (4, .own 0 2 0 x2_r0.length), (5, .i x2_5), (6, .i x2_6), (16, .b true), (17, .d (eL4 t0 a0)), (18, .i x2_5)], [eR32 x2_r0]⟩ ?_
          obtain ⟨h4, H⟩ := sC H
          refine ak_idx hT [0, 4, 5, 6, 16, 19] (i := x2_5) (n := (a0.length : Int)) h4.1 h4.2 (k' := (K74 111100010100000 8)) (st' := ⟨39, [(0, .d (eL4 t0 a0)), (4, .own 0 2 0 x2_r0.length), (5, .i x2_5), (6, .i x2_6), (16, .b true), (19, .d (eP4 t0 a0 x2_5.toNat 0))], [eR32 x2_r0]⟩) (by kernel_rfl) ?_
          refine goK hT 3 (K74 11110001010000 1) ⟨39, [(0, .d (eL4 t0 a0)), (4, .own 0 2 0 x2_r0.length), (5, .i x2_5), (6, .i x2_6), (21, .b (a0.getD x2_5.toNat false))], [eR32 x2_r0]⟩ ?_
          refine cutK [0] ⟨39, [(0, .d (eL4 t0 a0)), (4, .own 0 2 0 x2_r0.length), (5, .i x2_5), (6, .i x2_6), (21, .b (a0.getD x2_5.toNat false))], [eR32 x2_r0]⟩ h0 ?_
          exact Jj1 (a0.getD x2_5.toNat false) H
        · replace H := sF c3 H
          rw [decide_eq_false c3]
          refine goK hT 6 (K74 11110001010000 1) ⟨39, [(0, .d (eL4 t0 a0)), (4, .own 0 2 0 x2_r0.length), (5, .i x2_5), (6, .i x2_6), (21, .b false)], [eR32 x2_r0]⟩ ?_
          refine cutK [0] ⟨39, [(0, .d (eL4 t0 a0)), (4, .own 0 2 0 x2_r0.length), (5, .i x2_5), (6, .i x2_6), (21, .b false)], [eR32 x2_r0]⟩ h0 ?_
          exact Jj1 false H
  refine cutK [0] ⟨39, [(0, .d (eL4 t0 a0)), (4, .own 0 2 0 ([] : List spliceref03_Span).length), (5, .i 0)], [eR32 ([] : List spliceref03_Span)]⟩ h0 ?_
  obtain ⟨n, H⟩ := loopC H
  exact (L n).1 0 ([] : List spliceref03_Span) H


theorem spliceref03_Make.says {t0 : Bool} (a0 : List spliceref03_Span) {r : (List spliceref03_Span) × Int} (H : spliceref03_Make a0 = some r) : Says Try.prog 52 [] [.d (eL32 t0 a0)] [eR32 r.1] (.tup [.own 0 2 0 r.1.length, .i r.2]) := by
  refine says_of Try.func52 rfl (nt := 22) rfl (Nat.le_of_ble_eq_true rfl) fun X hP h0 hX => ?_
  have hT : TabOk X.P T := hP ▸ tok
  have hf : X.P.funcs[52]? = some Try.f52 := hP ▸ Try.func52
  refine goK hT 12 (K52 11010 0) ⟨22, [(0, .d (eL32 t0 a0)), (4, .i 0)], []⟩ ?_
  have L : ∀ n, (∀ (x1_4 : Int), iter (spliceref03_Make.step a0) n (.l1 x1_4) = some r → AK X 52 ((K52 11010 0)) (Back X [eR32 r.1] (.tup [.own 0 2 0 r.1.length, .i r.2])) ⟨22, [(0, .d (eL32 t0 a0)), (4, .i x1_4)], []⟩) := by
    intro n
    induction n with
    | zero => exact fun _ H => iter0 H
    | succ n ih =>
      · intro x1_4 H
        refine goK hT 8 (K52 1101000 1) ⟨22, [(0, .d (eL32 t0 a0)), (4, .i x1_4), (8, .b (decide (x1_4 < (a0.length : Int))))], []⟩ ?_
        by_cases c1 : x1_4 < (a0.length : Int)
        · replace H := sT c1 H
          rw [decide_eq_true c1]
          refine goK hT 2 (K52 110100 1) ⟨22, [(0, .d (eL32 t0 a0)), (4, .i x1_4)], []⟩ ?_
          refine goK hT 6 (K52 1101001000 2) ⟨22, [(0, .d (eL32 t0 a0)), (4, .i x1_4), (11, .d (eL32 t0 a0)), (12, .i x1_4)], []⟩ ?_
          obtain ⟨h4, H⟩ := sC H
          refine ak_idx hT [0, 4, 13] (i := x1_4) (n := (a0.length : Int)) h4.1 h4.2 (k' := (K52 1101001000 3)) (st' := ⟨22, [(0, .d (eL32 t0 a0)), (4, .i x1_4), (13, .d (eP32 t0 a0 x1_4.toNat 0))], []⟩) (by kernel_rfl) ?_
          refine goK hT 1 (K52 1101001000 4) ⟨22, [(0, .d (eL32 t0 a0)), (4, .i x1_4), (14, .d (eG32 (a0.getD x1_4.toNat spliceref03_Span.z)))], []⟩ ?_
          refine ak_callP (avs := [.d (eG32 (a0.getD x1_4.toNat spliceref03_Span.z))]) (dst := some 15) (k' := (K52 1101001000 5)) [0, 4, 15] [] hP enters_41 (spliceref03_One.says (a0.getD x1_4.toNat spliceref03_Span.z)) (by kernel_rfl) (hands_none _) (.cons (pass_d _) .nil) (st' := ⟨22, [(0, .d (eL32 t0 a0)), (4, .i x1_4), (15, .b (spliceref03_One (a0.getD x1_4.toNat spliceref03_Span.z)))], []⟩) (by kernel_rfl) ?_
          refine goK hT 2 (K52 110100100 1) ⟨22, [(0, .d (eL32 t0 a0)), (4, .i x1_4), (16, .b (!(spliceref03_One (a0.getD x1_4.toNat spliceref03_Span.z))))], []⟩ ?_
          by_cases c5 : (spliceref03_One (a0.getD x1_4.toNat spliceref03_Span.z)) = true
          · replace H := sT c5 H
            rw [c5]
            refine goK hT 3 (K52 1101001 1) ⟨22, [(0, .d (eL32 t0 a0)), (4, .i x1_4)], []⟩ ?_
            refine goK hT 6 (K52 11010 0) ⟨22, [(0, .d (eL32 t0 a0)), (4, .i (IntKind.wrap .i64 (x1_4 + 1)))], []⟩ ?_
            refine cutK [] ⟨22, [(0, .d (eL32 t0 a0)), (4, .i (IntKind.wrap .i64 (x1_4 + 1)))], []⟩ h0 ?_
            exact ih (IntKind.wrap .i64 (x1_4 + 1)) H
          · replace H := sF c5 H
            rw [boF c5]
            refine goK hT 6 (K52 11010010010 1) ⟨22, [(2, .ns), (3, .i 1)], []⟩ ?_
            refine ak_nilS [2, 3] 2 2 32 (vec spliceref03_Span.e spliceref03_Span.z []) (st' := ⟨22, [(2, .own 0 2 0 0), (3, .i 1)], [eR32 ([] : List spliceref03_Span)]⟩) (by kernel_rfl) (by kernel_rfl) ?_
            obtain rfl := retC H
            exact ak_ret hf hX (av := .tup [.own 0 2 0 0, .i 1]) (by kernel_rfl) [0] (sel_of_eq (by kernel_rfl)) (by decide) (by rw [h0]; rfl) (by kernel_rfl) (fun _ h => all_cons (nr_vec spliceref03_Span.nl) (fun _ h => all_nil h) h) (.tup (.cons (.own _ _ _ _) (.cons (.d (.v _)) .nil)))
        · replace H := sF c1 H
          rw [decide_eq_false c1]
          refine goK hT 5 (K52 1110 1) ⟨22, [(17, .d (eL32 t0 a0))], []⟩ ?_
          obtain ⟨v1, h2, H⟩ := sbC H
          refine ak_callP (avs := [.d (eL32 t0 a0)]) (dst := some 18) (k' := (K52 1110 2)) [18] [] hP enters_75 (spliceref03_Keys.says (t0 := t0) a0 h2) (by kernel_rfl) (hands_none _) (.cons (pass_d _) .nil) (st' := ⟨22, [(18, .own 0 1 0 v1.length)], [eR4 v1]⟩) (by kernel_rfl) ?_
          obtain ⟨v2, h3, H⟩ := sbC H
          refine ak_callP (avs := [.own 0 1 0 v1.length]) (dst := some 19) (k' := (K52 1110 3)) [19] [] hP enters_74 (spliceref03_Set.says (t0 := false) v1 h3) (by kernel_rfl) (hands_none _) (.cons (.lend (ty := 4) (by kernel_rfl) rfl) .nil) (st' := ⟨22, [(19, .tup [.own 1 2 0 v2.1.length, .i v2.2])], [eR4 v1, eR32 v2.1]⟩) (by kernel_rfl) ?_
          refine goK hT 5 (K52 111 1) ⟨22, [(2, .own 1 2 0 v2.1.length), (3, .i v2.2)], [eR4 v1, eR32 v2.1]⟩ ?_
          obtain rfl := retC H
          exact ak_ret hf hX (av := .tup [.own 1 2 0 v2.1.length, .i v2.2]) (by kernel_rfl) [1] (sel_of_eq (by kernel_rfl)) (by decide) (by rw [h0]; rfl) (by kernel_rfl) (fun _ h => all_cons (nr_vec spliceref03_Span.nl) (fun _ h => all_nil h) h) (.tup (.cons (.own _ _ _ _) (.cons (.d (.v _)) .nil)))
  refine cutK [] ⟨22, [(0, .d (eL32 t0 a0)), (4, .i 0)], []⟩ h0 ?_
  obtain ⟨n, H⟩ := loopC H
  exact (L n) 0 H


theorem spliceref04_Touch.says (a0 : spliceref04_Mut) {r : List spliceref03_Span} (H : spliceref04_Touch a0 = some r) : Says Try.prog 32 [] [.d (eG34 a0)] [eR32 r] (.own 0 2 0 r.length) := by
  refine says_of Try.func32 rfl (nt := 46) rfl (Nat.le_of_ble_eq_true rfl) fun X hP h0 hX => ?_
  have hT : TabOk X.P T := hP ▸ tok
  have hf : X.P.funcs[32]? = some Try.f32 := hP ▸ Try.func32
  refine goK hT 9 (K32 1100 1) ⟨46, [(1, .ptr 0 0 0 0), (7, .d (eG34 a0))], [.box 34 (eC34 a0)]⟩ ?_
  obtain ⟨v1, h1, H⟩ := ibC H
  refine ak_callP (avs := [.d (eG34 a0)]) (dst := some 8) (k' := (K32 1100 2)) [1, 8] [] hP enters_17 (spliceref04_Check.says a0 h1) (by kernel_rfl) (hands_none _) (.cons (pass_d _) .nil) (st' := ⟨46, [(1, .ptr 0 0 0 0), (8, .b v1)], [.box 34 (eC34 a0)]⟩) (by kernel_rfl) ?_
  refine goK hT 2 (K32 110 1) ⟨46, [(1, .ptr 0 0 0 0), (9, .b (!v1))], [.box 34 (eC34 a0)]⟩ ?_
  by_cases c2 : v1 = true
  · replace H := iT c2 H
    rw [c2]
    refine goK hT 2 (K32 11 1) ⟨46, [(1, .ptr 0 0 0 0)], [.box 34 (eC34 a0)]⟩ ?_
    refine goK hT 7 (K32 1110 1) ⟨46, [(1, .ptr 0 0 0 0), (12, .b (a0.Kind == 2))], [.box 34 (eC34 a0)]⟩ ?_
    by_cases c3 : a0.Kind = 2
    · replace H := iT c3 H
      rw [eqT c3]
      refine goK hT 8 (K32 111010 1) ⟨46, [(2, .own 1 2 0 1)], [.box 34 (eC34 a0), .flat false 2 32 1 (fun j => [spliceref03_Span.e a0.Over].getD j [])]⟩ ?_
      refine ak_row 1 (kk := 2) (fz := false) (ty := 32) (n := ([a0.Over] : List spliceref03_Span).length) (vec spliceref03_Span.e spliceref03_Span.z ([a0.Over] : List spliceref03_Span)) (by kernel_rfl) vec_lit (st' := ⟨46, [(2, .own 1 2 0 (([a0.Over] : List spliceref03_Span).length))], [.box 34 (eC34 a0), eR32 ([a0.Over] : List spliceref03_Span)]⟩) (by kernel_rfl) ?_
      obtain rfl := retC H
      exact ak_ret hf hX (av := .own 1 2 0 (([a0.Over] : List spliceref03_Span).length)) (by kernel_rfl) [1] (sel_of_eq (by kernel_rfl)) (by decide) (by rw [h0]; rfl) (by kernel_rfl) (fun _ h => all_cons (nr_vec spliceref03_Span.nl) (fun _ h => all_nil h) h) (.own _ _ _ _)
    · replace H := iF c3 H
      rw [eqF c3]
      refine goK hT 2 (K32 111 1) ⟨46, [(1, .ptr 0 0 0 0)], [.box 34 (eC34 a0)]⟩ ?_
      refine goK hT 11 (K32 11111010 0) ⟨46, [(1, .ptr 0 0 0 0), (3, .ns), (4, .i 0)], [.box 34 (eC34 a0)]⟩ ?_
      refine ak_nilS [1, 3, 4] 3 2 32 (vec spliceref03_Span.e spliceref03_Span.z []) (st' := ⟨46, [(1, .ptr 0 0 0 0), (3, .own 1 2 0 0), (4, .i 0)], [.box 34 (eC34 a0), eR32 ([] : List spliceref03_Span)]⟩) (by kernel_rfl) (by kernel_rfl) ?_
      have L : ∀ n, (∀ (x1_4 : Int) (x1_r1 : List spliceref03_Span), iter (spliceref04_Touch.step a0) n (.l1 x1_4 x1_r1) = some r → AK X 32 ((K32 11111010 0)) (Back X [eR32 r] (.own 0 2 0 r.length)) ⟨46, [(1, .ptr 0 0 0 0), (3, .own 1 2 0 x1_r1.length), (4, .i x1_4)], [.box 34 (eC34 a0), eR32 x1_r1]⟩) := by
        intro n
        induction n with
        | zero => exact fun _ _ H => iter0 H
        | succ n ih =>
          · intro x1_4 x1_r1 H
            refine goK hT 9 (K32 1111101000 1) ⟨46, [(1, .ptr 0 0 0 0), (3, .own 1 2 0 x1_r1.length), (4, .i x1_4), (20, .b (decide (x1_4 < (a0.Pairs.length : Int))))], [.box 34 (eC34 a0), eR32 x1_r1]⟩ ?_
            by_cases c4 : x1_4 < (a0.Pairs.length : Int)
            · replace H := sT c4 H
              rw [decide_eq_true c4]
              refine goK hT 2 (K32 111110100 1) ⟨46, [(1, .ptr 0 0 0 0), (3, .own 1 2 0 x1_r1.length), (4, .i x1_4)], [.box 34 (eC34 a0), eR32 x1_r1]⟩ ?_
              refine goK hT 2 (K32 11111010010 0) ⟨46, [(1, .ptr 0 0 0 0), (3, .own 1 2 0 x1_r1.length), (4, .i x1_4)], [.box 34 (eC34 a0), eR32 x1_r1]⟩ ?_
              obtain ⟨h6, H⟩ := sC H
              refine ak_drawAtE (nt := 46) (hP ▸ mixed) 16 [15] [1, 3, 4] [(1, .ptr 0 0 0 0), (3, .own 1 2 0 x1_r1.length), (4, .i x1_4)] [some (.own 1 2 0 x1_r1.length), some (.ptr 0 0 0 3), some (.d (eL79 true a0.Pairs)), some (.i x1_4), some (.d (eP79 true a0.Pairs x1_4.toNat 0)), some (.d (eP79 true a0.Pairs x1_4.toNat 0)), some (.i ((a0.Pairs.getD x1_4.toNat spliceref04_Pair.z).Key)), some (.ptr 0 0 0 3), some (.d (eL79 true a0.Pairs)), some (.i x1_4), some (.d (eP79 true a0.Pairs x1_4.toNat 0)), some (.d (eP79 true a0.Pairs x1_4.toNat 0)), some (.i ((a0.Pairs.getD x1_4.toNat spliceref04_Pair.z).Key)), some (.i (IntKind.wrap .i64 (((a0.Pairs.getD x1_4.toNat spliceref04_Pair.z).Key) + 1))), some (.d (.agg [.i ((a0.Pairs.getD x1_4.toNat spliceref04_Pair.z).Key), .i (IntKind.wrap .i64 (((a0.Pairs.getD x1_4.toNat spliceref04_Pair.z).Key) + 1))])), some (.own 2 2 0 1)] [[.box 34 (eC34 a0), eR32 x1_r1], [.box 34 (eC34 a0), eR32 x1_r1, .flat false 2 32 1 (fun j => [[.i ((a0.Pairs.getD x1_4.toNat spliceref04_Pair.z).Key), .i (IntKind.wrap .i64 (((a0.Pairs.getD x1_4.toNat spliceref04_Pair.z).Key) + 1))]].getD j [])]] (by kernel_rfl) (by kernel_rfl) (by kernel_rfl) (by kernel_rfl) ⟨(opXE (opGE (opGE (opGE (opGE (opES (opGE (opGE (opGE (opGE (opGE (opES (opGE (opGE (opGE (opGE opE0 hT) hT) hT) hT) (fun R rest h => ak_idx0 hT (i := x1_4) (n := (a0.Pairs.length : Int)) h6.1 h6.2 (by kernel_rfl) h)) hT) hT) hT) hT) hT) (fun R rest h => ak_idx0 hT (i := x1_4) (n := (a0.Pairs.length : Int)) h6.1 h6.2 (by kernel_rfl) h)) hT) hT) hT) hT)), (op_goFK hT), (opXE (opGE (opGE (opGE (opGE (opES (opGE (opGE (opGE (opGE (opGE (opES (opGE (opGE (opGE (opGE opE0 hT) hT) hT) hT) (fun R rest h => ak_idx0 hT (i := x1_4) (n := (a0.Pairs.length : Int)) h6.1 h6.2 (by kernel_rfl) h)) hT) hT) hT) hT) hT) (fun R rest h => ak_idx0 hT (i := x1_4) (n := (a0.Pairs.length : Int)) h6.1 h6.2 (by kernel_rfl) h)) hT) hT) hT) hT))⟩ ?_
              refine goK hT 0 (K32 111110100100 16) ⟨46, [(1, .ptr 0 0 0 0), (4, .i x1_4), (23, .own 1 2 0 x1_r1.length), (38, .own 2 2 0 1)], [.box 34 (eC34 a0), eR32 x1_r1, .flat false 2 32 1 (fun j => [[.i ((a0.Pairs.getD x1_4.toNat spliceref04_Pair.z).Key), .i (IntKind.wrap .i64 (((a0.Pairs.getD x1_4.toNat spliceref04_Pair.z).Key) + 1))]].getD j [])]⟩ ?_
              obtain ⟨h7, H⟩ := sC H
              refine ak_append1 (id := 1) (kk := 2) (by' := 16) (t := 55) (e := 32) (z := [.int .i64 0, .int .i64 0]) (dst := some 39) (id2 := 2) (e2 := 32) (fz := false) (k' := (K32 111110100100 17)) hT spliceref03_Span.e spliceref03_Span.z x1_r1 (⟨(a0.Pairs.getD x1_4.toNat spliceref04_Pair.z).Key, IntKind.wrap .i64 (((a0.Pairs.getD x1_4.toNat spliceref04_Pair.z).Key) + 1)⟩ : spliceref03_Span) [1, 4, 39] (by kernel_rfl) (by kernel_rfl) (by kernel_rfl) (by kernel_rfl) (by kernel_rfl) (by kernel_rfl) (by kernel_rfl) h7 (by omega) (st' := ⟨46, [(1, .ptr 0 0 0 0), (4, .i x1_4), (39, .own 3 2 0 ((x1_r1 ++ [(⟨(a0.Pairs.getD x1_4.toNat spliceref04_Pair.z).Key, IntKind.wrap .i64 (((a0.Pairs.getD x1_4.toNat spliceref04_Pair.z).Key) + 1)⟩ : spliceref03_Span)]).length))], [.box 34 (eC34 a0), .gone, .flat false 2 32 1 (fun j => [[.i ((a0.Pairs.getD x1_4.toNat spliceref04_Pair.z).Key), .i (IntKind.wrap .i64 (((a0.Pairs.getD x1_4.toNat spliceref04_Pair.z).Key) + 1))]].getD j []), eR32 (x1_r1 ++ [(⟨(a0.Pairs.getD x1_4.toNat spliceref04_Pair.z).Key, IntKind.wrap .i64 (((a0.Pairs.getD x1_4.toNat spliceref04_Pair.z).Key) + 1)⟩ : spliceref03_Span)])]⟩) (by kernel_rfl) ?_
              refine goK hT 9 (K32 11111010 0) ⟨46, [(1, .ptr 0 0 0 0), (3, .own 3 2 0 ((x1_r1 ++ [(⟨(a0.Pairs.getD x1_4.toNat spliceref04_Pair.z).Key, IntKind.wrap .i64 (((a0.Pairs.getD x1_4.toNat spliceref04_Pair.z).Key) + 1)⟩ : spliceref03_Span)]).length)), (4, .i (IntKind.wrap .i64 (x1_4 + 1)))], [.box 34 (eC34 a0), .gone, .flat false 2 32 1 (fun j => [[.i ((a0.Pairs.getD x1_4.toNat spliceref04_Pair.z).Key), .i (IntKind.wrap .i64 (((a0.Pairs.getD x1_4.toNat spliceref04_Pair.z).Key) + 1))]].getD j []), eR32 (x1_r1 ++ [(⟨(a0.Pairs.getD x1_4.toNat spliceref04_Pair.z).Key, IntKind.wrap .i64 (((a0.Pairs.getD x1_4.toNat spliceref04_Pair.z).Key) + 1)⟩ : spliceref03_Span)])]⟩ ?_
              refine cutK [0, 3] ⟨46, [(1, .ptr 0 0 0 0), (3, .own 1 2 0 (x1_r1 ++ [(⟨(a0.Pairs.getD x1_4.toNat spliceref04_Pair.z).Key, IntKind.wrap .i64 (((a0.Pairs.getD x1_4.toNat spliceref04_Pair.z).Key) + 1)⟩ : spliceref03_Span)]).length), (4, .i (IntKind.wrap .i64 (x1_4 + 1)))], [.box 34 (eC34 a0), eR32 (x1_r1 ++ [(⟨(a0.Pairs.getD x1_4.toNat spliceref04_Pair.z).Key, IntKind.wrap .i64 (((a0.Pairs.getD x1_4.toNat spliceref04_Pair.z).Key) + 1)⟩ : spliceref03_Span)])]⟩ h0 ?_
              exact ih (IntKind.wrap .i64 (x1_4 + 1)) (x1_r1 ++ [(⟨(a0.Pairs.getD x1_4.toNat spliceref04_Pair.z).Key, IntKind.wrap .i64 (((a0.Pairs.getD x1_4.toNat spliceref04_Pair.z).Key) + 1)⟩ : spliceref03_Span)]) H
            · replace H := sF c4 H
              rw [decide_eq_false c4]
              refine goK hT 5 (K32 1111110 1) ⟨46, [(41, .own 1 2 0 x1_r1.length)], [.box 34 (eC34 a0), eR32 x1_r1]⟩ ?_
              obtain ⟨v2, h5, H⟩ := sbC H
              refine ak_callP (avs := [.own 1 2 0 x1_r1.length]) (dst := some 42) (k' := (K32 1111110 2)) [42] [] hP enters_52 (spliceref03_Make.says (t0 := false) x1_r1 h5) (by kernel_rfl) (hands_none _) (.cons (.lend (ty := 32) (by kernel_rfl) rfl) .nil) (st' := ⟨46, [(42, .tup [.own 2 2 0 v2.1.length, .i v2.2])], [.box 34 (eC34 a0), eR32 x1_r1, eR32 v2.1]⟩) (by kernel_rfl) ?_
              refine goK hT 11 (K32 1111111 1) ⟨46, [(2, .own 2 2 0 v2.1.length)], [.box 34 (eC34 a0), eR32 x1_r1, eR32 v2.1]⟩ ?_
              obtain rfl := retC H
              exact ak_ret hf hX (av := .own 2 2 0 v2.1.length) (by kernel_rfl) [2] (sel_of_eq (by kernel_rfl)) (by decide) (by rw [h0]; rfl) (by kernel_rfl) (fun _ h => all_cons (nr_vec spliceref03_Span.nl) (fun _ h => all_nil h) h) (.own _ _ _ _)
      refine cutK [0, 1] ⟨46, [(1, .ptr 0 0 0 0), (3, .own 1 2 0 ([] : List spliceref03_Span).length), (4, .i 0)], [.box 34 (eC34 a0), eR32 ([] : List spliceref03_Span)]⟩ h0 ?_
      obtain ⟨n, H⟩ := loopC H
      exact (L n) 0 ([] : List spliceref03_Span) H
  · replace H := iF c2 H
    rw [boF c2]
    refine goK hT 5 (K32 11010 1) ⟨46, [(2, .ns)], [.box 34 (eC34 a0)]⟩ ?_
    refine ak_nilS [2] 2 2 32 (vec spliceref03_Span.e spliceref03_Span.z []) (st' := ⟨46, [(2, .own 1 2 0 0)], [.box 34 (eC34 a0), eR32 ([] : List spliceref03_Span)]⟩) (by kernel_rfl) (by kernel_rfl) ?_
    obtain rfl := retC H
    exact ak_ret hf hX (av := .own 1 2 0 0) (by kernel_rfl) [1] (sel_of_eq (by kernel_rfl)) (by decide) (by rw [h0]; rfl) (by kernel_rfl) (fun _ h => all_cons (nr_vec spliceref03_Span.nl) (fun _ h => all_nil h) h) (.own _ _ _ _)


theorem spliceref03_Same.says {t0 : Bool} {t1 : Bool} (a0 : List spliceref03_Span) (a1 : List spliceref03_Span) {r : Bool} (H : spliceref03_Same a0 a1 = some r) : Says Try.prog 30 [] [.d (eL32 t0 a0), .d (eL32 t1 a1)] [] (.b r) := by
  refine says_of Try.func30 rfl (nt := 26) rfl (Nat.le_of_ble_eq_true rfl) fun X hP h0 hX => ?_
  have hT : TabOk X.P T := hP ▸ tok
  have hf : X.P.funcs[30]? = some Try.f30 := hP ▸ Try.func30
  refine goK hT 13 (K30 110 1) ⟨26, [(0, .d (eL32 t0 a0)), (1, .d (eL32 t1 a1)), (10, .b ((a0.length : Int) != (a1.length : Int)))], []⟩ ?_
  by_cases c1 : (a0.length : Int) = (a1.length : Int)
  · replace H := iT c1 H
    rw [neF c1]
    refine goK hT 2 (K30 11 1) ⟨26, [(0, .d (eL32 t0 a0)), (1, .d (eL32 t1 a1))], []⟩ ?_
    refine goK hT 7 (K30 111010 0) ⟨26, [(0, .d (eL32 t0 a0)), (1, .d (eL32 t1 a1)), (5, .i 0)], []⟩ ?_
    have L : ∀ n, (∀ (x1_5 : Int), iter (spliceref03_Same.step a0 a1) n (.l1 x1_5) = some r → AK X 30 ((K30 111010 0)) (Back X [] (.b r)) ⟨26, [(0, .d (eL32 t0 a0)), (1, .d (eL32 t1 a1)), (5, .i x1_5)], []⟩) := by
      intro n
      induction n with
      | zero => exact fun _ H => iter0 H
      | succ n ih =>
        · intro x1_5 H
          refine goK hT 8 (K30 11101000 1) ⟨26, [(0, .d (eL32 t0 a0)), (1, .d (eL32 t1 a1)), (5, .i x1_5), (14, .b (decide (x1_5 < (a0.length : Int))))], []⟩ ?_
          by_cases c2 : x1_5 < (a0.length : Int)
          · replace H := sT c2 H
            rw [decide_eq_true c2]
            refine goK hT 2 (K30 1110100 1) ⟨26, [(0, .d (eL32 t0 a0)), (1, .d (eL32 t1 a1)), (5, .i x1_5)], []⟩ ?_
            refine goK hT 3 (K30 1110100100 0) ⟨26, [(0, .d (eL32 t0 a0)), (1, .d (eL32 t1 a1)), (5, .i x1_5)], []⟩ ?_
            obtain ⟨h3, H⟩ := sC H
            obtain ⟨h4, H⟩ := sC H
            refine drawK (hP ▸ mixed) 9 [0, 1, 5] [some (.d (eL32 t0 a0)), some (.i x1_5), some (.d (eP32 t0 a0 x1_5.toNat 0)), some (.d (eG32 (a0.getD x1_5.toNat spliceref03_Span.z))), some (.d (eL32 t1 a1)), some (.i x1_5), some (.d (eP32 t1 a1 x1_5.toNat 0)), some (.d (eG32 (a1.getD x1_5.toNat spliceref03_Span.z))), some (.b (!((((a0.getD x1_5.toNat spliceref03_Span.z).Lo) == ((a1.getD x1_5.toNat spliceref03_Span.z).Lo)) && (((a0.getD x1_5.toNat spliceref03_Span.z).Hi) == ((a1.getD x1_5.toNat spliceref03_Span.z).Hi)))))] (opG (opG (opS (opG (opG (opG (opS (opG (opG op0 hT) hT) (fun R rest h => ak_idx0 hT (i := x1_5) (n := (a0.length : Int)) h3.1 h3.2 (by kernel_rfl) h)) hT) hT) hT) (fun R rest h => ak_idx0 hT (i := x1_5) (n := (a1.length : Int)) h4.1 h4.2 (by kernel_rfl) h)) hT) hT) ?_
            refine goK hT 1 (K30 1110100100 1) ⟨26, [(0, .d (eL32 t0 a0)), (1, .d (eL32 t1 a1)), (5, .i x1_5), (25, .b (!((((a0.getD x1_5.toNat spliceref03_Span.z).Lo) == ((a1.getD x1_5.toNat spliceref03_Span.z).Lo)) && (((a0.getD x1_5.toNat spliceref03_Span.z).Hi) == ((a1.getD x1_5.toNat spliceref03_Span.z).Hi)))))], []⟩ ?_
            by_cases c5 : ((a0.getD x1_5.toNat spliceref03_Span.z).Lo) = ((a1.getD x1_5.toNat spliceref03_Span.z).Lo)
            · replace H := sT c5 H
              rw [eqT c5]
              by_cases c6 : ((a0.getD x1_5.toNat spliceref03_Span.z).Hi) = ((a1.getD x1_5.toNat spliceref03_Span.z).Hi)
              · replace H := sT c6 H
                rw [eqT c6]
                refine goK hT 3 (K30 11101001 1) ⟨26, [(0, .d (eL32 t0 a0)), (1, .d (eL32 t1 a1)), (5, .i x1_5)], []⟩ ?_
                refine goK hT 6 (K30 111010 0) ⟨26, [(0, .d (eL32 t0 a0)), (1, .d (eL32 t1 a1)), (5, .i (IntKind.wrap .i64 (x1_5 + 1)))], []⟩ ?_
                refine cutK [] ⟨26, [(0, .d (eL32 t0 a0)), (1, .d (eL32 t1 a1)), (5, .i (IntKind.wrap .i64 (x1_5 + 1)))], []⟩ h0 ?_
                exact ih (IntKind.wrap .i64 (x1_5 + 1)) H
              · replace H := sF c6 H
                rw [eqF c6]
                refine goK hT 5 (K30 111010010010 1) ⟨26, [(4, .b false)], []⟩ ?_
                obtain rfl := retC H
                exact ak_ret hf hX (av := .b false) (by kernel_rfl) [] (sel_of_eq (by kernel_rfl)) (by decide) (by rw [h0]; rfl) (by kernel_rfl) (fun _ h => all_nil h) (.d (.v _))
            · replace H := sF c5 H
              rw [eqF c5]
              by_cases c7 : ((a0.getD x1_5.toNat spliceref03_Span.z).Hi) = ((a1.getD x1_5.toNat spliceref03_Span.z).Hi)
              · replace H := sT c7 H
                rw [eqT c7]
                refine goK hT 5 (K30 111010010010 1) ⟨26, [(4, .b false)], []⟩ ?_
                obtain rfl := retC H
                exact ak_ret hf hX (av := .b false) (by kernel_rfl) [] (sel_of_eq (by kernel_rfl)) (by decide) (by rw [h0]; rfl) (by kernel_rfl) (fun _ h => all_nil h) (.d (.v _))
              · replace H := sF c7 H
                rw [eqF c7]
                refine goK hT 5 (K30 111010010010 1) ⟨26, [(4, .b false)], []⟩ ?_
                obtain rfl := retC H
                exact ak_ret hf hX (av := .b false) (by kernel_rfl) [] (sel_of_eq (by kernel_rfl)) (by decide) (by rw [h0]; rfl) (by kernel_rfl) (fun _ h => all_nil h) (.d (.v _))
          · replace H := sF c2 H
            rw [decide_eq_false c2]
            refine goK hT 6 (K30 1111 1) ⟨26, [(4, .b true)], []⟩ ?_
            obtain rfl := retC H
            exact ak_ret hf hX (av := .b true) (by kernel_rfl) [] (sel_of_eq (by kernel_rfl)) (by decide) (by rw [h0]; rfl) (by kernel_rfl) (fun _ h => all_nil h) (.d (.v _))
    refine cutK [] ⟨26, [(0, .d (eL32 t0 a0)), (1, .d (eL32 t1 a1)), (5, .i 0)], []⟩ h0 ?_
    obtain ⟨n, H⟩ := loopC H
    exact (L n) 0 H
  · replace H := iF c1 H
    rw [neT c1]
    refine goK hT 5 (K30 11010 1) ⟨26, [(4, .b false)], []⟩ ?_
    obtain rfl := retC H
    exact ak_ret hf hX (av := .b false) (by kernel_rfl) [] (sel_of_eq (by kernel_rfl)) (by decide) (by rw [h0]; rfl) (by kernel_rfl) (fun _ h => all_nil h) (.d (.v _))
end Go.SyP
