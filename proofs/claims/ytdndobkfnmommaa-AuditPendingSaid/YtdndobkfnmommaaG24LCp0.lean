/- Certificates, printed by gen24.py. -/
import Derived.Test.YtdndobkfnmommaaG24WC
import Derived.Test.YtdndobkfnmommaaG24LP
set_option linter.unusedVariables false
set_option linter.unusedSimpArgs false
namespace Go.SyP
open Go Go.Sy Go.Proofs

noncomputable abbrev splicelaw24_awake.q1 := ([(⟨1, 1, (⟨1, 1, 1, ([(⟨5, 7⟩ : api_Pair)] : List api_Pair), (⟨0, 0⟩ : api_Span), 0⟩ : api_Mut), 0, (⟨0, false⟩ : api_Cell), 0⟩ : api_Event), (⟨2, 1, (⟨0, 0, 0, ([] : List api_Pair), (⟨0, 0⟩ : api_Span), 0⟩ : api_Mut), 5, (⟨7, true⟩ : api_Cell), 0⟩ : api_Event), (⟨2, 1, (⟨0, 0, 0, ([] : List api_Pair), (⟨0, 0⟩ : api_Span), 0⟩ : api_Mut), 5, (⟨7, true⟩ : api_Cell), 4⟩ : api_Event)] : List api_Event)
noncomputable abbrev splicelaw24_awake.q2 (v1 : (List api_Finding) × Int) (v2 : (List api_Finding) × Int) : List Row := [eF76 ([(⟨5, 7⟩ : api_Pair)] : List api_Pair), .box 48 [.i 1, .i 1, .i 1, .own 0 2 0 1, .i 0, .i 0, .i 0], eR74 ([(⟨(⟨1, 1, 1, ([(⟨5, 7⟩ : api_Pair)] : List api_Pair), (⟨0, 0⟩ : api_Span), 0⟩ : api_Mut), 3, true⟩ : api_Entry)] : List api_Entry), .box 50 [.i 7, .b true], eR52 ((splicelaw24_awake.q1).set 2 (⟨((splicelaw24_awake.q1).getD 2 api_Event.z).Kind, ((splicelaw24_awake.q1).getD 2 api_Event.z).Client, (((splicelaw24_awake.q1).getD 2 api_Event.z).M), ((splicelaw24_awake.q1).getD 2 api_Event.z).Key, (⟨8, (((splicelaw24_awake.q1).getD 2 api_Event.z).Cell).Some⟩ : api_Cell), ((splicelaw24_awake.q1).getD 2 api_Event.z).Mark⟩ : api_Event)), eR41 v1.1, eR41 v2.1]
noncomputable abbrev splicelaw24_awake.q3 := ([(⟨(⟨1, 1, 1, ([(⟨5, 7⟩ : api_Pair)] : List api_Pair), (⟨0, 0⟩ : api_Span), 0⟩ : api_Mut), 3, true⟩ : api_Entry)] : List api_Entry)
noncomputable abbrev splicelaw24_awake.q4 := ((splicelaw24_awake.q1).set 2 (⟨((splicelaw24_awake.q1).getD 2 api_Event.z).Kind, ((splicelaw24_awake.q1).getD 2 api_Event.z).Client, (((splicelaw24_awake.q1).getD 2 api_Event.z).M), ((splicelaw24_awake.q1).getD 2 api_Event.z).Key, (⟨8, (((splicelaw24_awake.q1).getD 2 api_Event.z).Cell).Some⟩ : api_Cell), ((splicelaw24_awake.q1).getD 2 api_Event.z).Mark⟩ : api_Event))
noncomputable abbrev splicelaw24_awake.q5 := ([(⟨5, 7⟩ : api_Pair)] : List api_Pair)
noncomputable abbrev splicelaw24_awake.q6 : List AV := [.i 1, .i 1, .i 1, .own 0 2 0 1, .i 0, .i 0, .i 0]
noncomputable abbrev splicelaw24_awake.q7 (v1 : (List api_Finding) × Int) : List Row := [eF76 (splicelaw24_awake.q5), .box 48 (splicelaw24_awake.q6), eR74 (splicelaw24_awake.q3), .box 50 [.i 7, .b true], eR52 (splicelaw24_awake.q1), eR41 v1.1]

theorem splicelaw24_awake.says {r : Bool} (H : splicelaw24_awake = some r) : Says Try.prog 7 [] [] [] (.b r) := by
 refine says_of Try.func7 rfl (nt := 62) rfl (Nat.le_of_ble_eq_true rfl) fun X hP h0 hX => ?_
 have hT : TabOk X.P T := hP ▸ tok
 have hf : X.P.funcs[7]? = some Try.f7 := hP ▸ Try.func7
 refine goK hT 16 (K7 1110 2) ⟨62, [(1, .ptr 1 0 0 0), (13, .agg [.i 1, .i 1, .i 1, .own 0 2 0 1, .i 0, .i 0, .i 0, .i 3, .b true])], [.flat false 2 76 1 (fun j => [[.i 5, .i 7]].getD j []), .box 48 (splicelaw24_awake.q6)]⟩ ?_
 refine ak_row 0 (kk := 2) (fz := false) (ty := 76) (n := (splicelaw24_awake.q5).length) (vec api_Pair.e api_Pair.z (splicelaw24_awake.q5)) (by kernel_rfl) vec_lit (st' := ⟨62, [(1, .ptr 1 0 0 0), (13, .agg [.i 1, .i 1, .i 1, .own 0 2 0 1, .i 0, .i 0, .i 0, .i 3, .b true])], [eR76 (splicelaw24_awake.q5), .box 48 (splicelaw24_awake.q6)]⟩) (by kernel_rfl) ?_
 refine ak_freeze 0 (kk := 2) (n := (splicelaw24_awake.q5).length) (ty := 76) (g := vec api_Pair.e api_Pair.z (splicelaw24_awake.q5)) (by kernel_rfl) (st' := ⟨62, [(1, .ptr 1 0 0 0), (13, .agg [.i 1, .i 1, .i 1, .own 0 2 0 1, .i 0, .i 0, .i 0, .i 3, .b true])], [eF76 (splicelaw24_awake.q5), .box 48 (splicelaw24_awake.q6)]⟩) (by kernel_rfl) ?_
 refine ak_sealS (av := .agg [.i 1, .i 1, .i 1, .own 0 2 0 1, .i 0, .i 0, .i 0, .i 3, .b true]) (y := .agg [.i 1, .i 1, .i 1, eL76 true (splicelaw24_awake.q5), .i 0, .i 0, .i 0, .i 3, .b true]) [1, 13] 13 (st' := ⟨62, [(1, .ptr 1 0 0 0), (13, .d (.agg [.i 1, .i 1, .i 1, eL76 true (splicelaw24_awake.q5), .i 0, .i 0, .i 0, .i 3, .b true]))], [eF76 (splicelaw24_awake.q5), .box 48 (splicelaw24_awake.q6)]⟩) (by kernel_rfl) (.agg (.cons (.d _) (.cons (.d _) (.cons (.d _) (.cons (.own (ty := 76) (k := 2) (by kernel_rfl)) (.cons (.d _) (.cons (.d _) (.cons (.d _) (.cons (.d _) (.cons (.d _) .nil)))))))))) (by kernel_rfl) ?_
 refine goK hT 17 (K7 111110 6) ⟨62, [(2, .own 2 9 0 1), (17, .agg [.i 1, .i 1, .i 1, .i 1, .i 1, .own 0 2 0 1, .i 0, .i 0, .i 0, .i 0, .i 0, .b false, .i 0]), (19, .d (.agg [.i 2, .i 1, .i 0, .i 0, .i 0, .ns, .i 0, .i 0, .i 0, .i 5, .i 7, .b true, .i 0])), (21, .d (.agg [.i 2, .i 1, .i 0, .i 0, .i 0, .ns, .i 0, .i 0, .i 0, .i 5, .i 7, .b true, .i 4]))], [eF76 (splicelaw24_awake.q5), .box 48 (splicelaw24_awake.q6), .flat false 9 74 1 (fun j => [[.i 1, .i 1, .i 1, eL76 true (splicelaw24_awake.q5), .i 0, .i 0, .i 0, .i 3, .b true]].getD j []), .box 50 [.i 7, .b true]]⟩ ?_
 refine ak_sealS (av := .agg [.i 1, .i 1, .i 1, .i 1, .i 1, .own 0 2 0 1, .i 0, .i 0, .i 0, .i 0, .i 0, .b false, .i 0]) (y := .agg [.i 1, .i 1, .i 1, .i 1, .i 1, eL76 true (splicelaw24_awake.q5), .i 0, .i 0, .i 0, .i 0, .i 0, .b false, .i 0]) [2, 17, 19, 21] 17 (st' := ⟨62, [(2, .own 2 9 0 1), (17, .d (.agg [.i 1, .i 1, .i 1, .i 1, .i 1, eL76 true (splicelaw24_awake.q5), .i 0, .i 0, .i 0, .i 0, .i 0, .b false, .i 0])), (19, .d (.agg [.i 2, .i 1, .i 0, .i 0, .i 0, .ns, .i 0, .i 0, .i 0, .i 5, .i 7, .b true, .i 0])), (21, .d (.agg [.i 2, .i 1, .i 0, .i 0, .i 0, .ns, .i 0, .i 0, .i 0, .i 5, .i 7, .b true, .i 4]))], [eF76 (splicelaw24_awake.q5), .box 48 (splicelaw24_awake.q6), .flat false 9 74 1 (fun j => [[.i 1, .i 1, .i 1, eL76 true (splicelaw24_awake.q5), .i 0, .i 0, .i 0, .i 3, .b true]].getD j []), .box 50 [.i 7, .b true]]⟩) (by kernel_rfl) (.agg (.cons (.d _) (.cons (.d _) (.cons (.d _) (.cons (.d _) (.cons (.d _) (.cons (.own (ty := 76) (k := 2) (by kernel_rfl)) (.cons (.d _) (.cons (.d _) (.cons (.d _) (.cons (.d _) (.cons (.d _) (.cons (.d _) (.cons (.d _) .nil)))))))))))))) (by kernel_rfl) ?_
 refine ak_sealS (av := .d (.agg [.i 2, .i 1, .i 0, .i 0, .i 0, .ns, .i 0, .i 0, .i 0, .i 5, .i 7, .b true, .i 0])) (y := .agg [.i 2, .i 1, .i 0, .i 0, .i 0, eL76 true ([] : List api_Pair), .i 0, .i 0, .i 0, .i 5, .i 7, .b true, .i 0]) [2, 17, 19, 21] 19 (st' := ⟨62, [(2, .own 2 9 0 1), (17, .d (.agg [.i 1, .i 1, .i 1, .i 1, .i 1, eL76 true (splicelaw24_awake.q5), .i 0, .i 0, .i 0, .i 0, .i 0, .b false, .i 0])), (19, .d (.agg [.i 2, .i 1, .i 0, .i 0, .i 0, eL76 true ([] : List api_Pair), .i 0, .i 0, .i 0, .i 5, .i 7, .b true, .i 0])), (21, .d (.agg [.i 2, .i 1, .i 0, .i 0, .i 0, .ns, .i 0, .i 0, .i 0, .i 5, .i 7, .b true, .i 4]))], [eF76 (splicelaw24_awake.q5), .box 48 (splicelaw24_awake.q6), .flat false 9 74 1 (fun j => [[.i 1, .i 1, .i 1, eL76 true (splicelaw24_awake.q5), .i 0, .i 0, .i 0, .i 3, .b true]].getD j []), .box 50 [.i 7, .b true]]⟩) (by kernel_rfl) (.aggd (.cons (.d _) (.cons (.d _) (.cons (.d _) (.cons (.d _) (.cons (.d _) (.cons (.nil _) (.cons (.d _) (.cons (.d _) (.cons (.d _) (.cons (.d _) (.cons (.d _) (.cons (.d _) (.cons (.d _) .nil)))))))))))))) (by kernel_rfl) ?_
 refine ak_sealS (av := .d (.agg [.i 2, .i 1, .i 0, .i 0, .i 0, .ns, .i 0, .i 0, .i 0, .i 5, .i 7, .b true, .i 4])) (y := .agg [.i 2, .i 1, .i 0, .i 0, .i 0, eL76 true ([] : List api_Pair), .i 0, .i 0, .i 0, .i 5, .i 7, .b true, .i 4]) [2, 17, 19, 21] 21 (st' := ⟨62, [(2, .own 2 9 0 1), (17, .d (.agg [.i 1, .i 1, .i 1, .i 1, .i 1, eL76 true (splicelaw24_awake.q5), .i 0, .i 0, .i 0, .i 0, .i 0, .b false, .i 0])), (19, .d (.agg [.i 2, .i 1, .i 0, .i 0, .i 0, eL76 true ([] : List api_Pair), .i 0, .i 0, .i 0, .i 5, .i 7, .b true, .i 0])), (21, .d (.agg [.i 2, .i 1, .i 0, .i 0, .i 0, eL76 true ([] : List api_Pair), .i 0, .i 0, .i 0, .i 5, .i 7, .b true, .i 4]))], [eF76 (splicelaw24_awake.q5), .box 48 (splicelaw24_awake.q6), .flat false 9 74 1 (fun j => [[.i 1, .i 1, .i 1, eL76 true (splicelaw24_awake.q5), .i 0, .i 0, .i 0, .i 3, .b true]].getD j []), .box 50 [.i 7, .b true]]⟩) (by kernel_rfl) (.aggd (.cons (.d _) (.cons (.d _) (.cons (.d _) (.cons (.d _) (.cons (.d _) (.cons (.nil _) (.cons (.d _) (.cons (.d _) (.cons (.d _) (.cons (.d _) (.cons (.d _) (.cons (.d _) (.cons (.d _) .nil)))))))))))))) (by kernel_rfl) ?_
 refine goK hT 7 (K7 1111110 2) ⟨62, [(2, .own 2 9 0 1), (4, .own 4 13 0 3), (24, .own 2 9 0 1), (25, .own 4 13 0 3)], [eF76 (splicelaw24_awake.q5), .box 48 (splicelaw24_awake.q6), .flat false 9 74 1 (fun j => [[.i 1, .i 1, .i 1, eL76 true (splicelaw24_awake.q5), .i 0, .i 0, .i 0, .i 3, .b true]].getD j []), .box 50 [.i 7, .b true], .flat false 13 52 3 (fun j => [[.i 1, .i 1, .i 1, .i 1, .i 1, eL76 true (splicelaw24_awake.q5), .i 0, .i 0, .i 0, .i 0, .i 0, .b false, .i 0], [.i 2, .i 1, .i 0, .i 0, .i 0, eL76 true ([] : List api_Pair), .i 0, .i 0, .i 0, .i 5, .i 7, .b true, .i 0], [.i 2, .i 1, .i 0, .i 0, .i 0, eL76 true ([] : List api_Pair), .i 0, .i 0, .i 0, .i 5, .i 7, .b true, .i 4]].getD j [])]⟩ ?_
 refine ak_row 2 (kk := 9) (fz := false) (ty := 74) (n := (splicelaw24_awake.q3).length) (vec api_Entry.e api_Entry.z (splicelaw24_awake.q3)) (by kernel_rfl) vec_lit (st' := ⟨62, [(2, .own 2 9 0 ((splicelaw24_awake.q3).length)), (4, .own 4 13 0 3), (24, .own 2 9 0 ((splicelaw24_awake.q3).length)), (25, .own 4 13 0 3)], [eF76 (splicelaw24_awake.q5), .box 48 (splicelaw24_awake.q6), eR74 (splicelaw24_awake.q3), .box 50 [.i 7, .b true], .flat false 13 52 3 (fun j => [[.i 1, .i 1, .i 1, .i 1, .i 1, eL76 true (splicelaw24_awake.q5), .i 0, .i 0, .i 0, .i 0, .i 0, .b false, .i 0], [.i 2, .i 1, .i 0, .i 0, .i 0, eL76 true ([] : List api_Pair), .i 0, .i 0, .i 0, .i 5, .i 7, .b true, .i 0], [.i 2, .i 1, .i 0, .i 0, .i 0, eL76 true ([] : List api_Pair), .i 0, .i 0, .i 0, .i 5, .i 7, .b true, .i 4]].getD j [])]⟩) (by kernel_rfl) ?_
 refine ak_row 4 (kk := 13) (fz := false) (ty := 52) (n := (splicelaw24_awake.q1).length) (vec api_Event.e api_Event.z (splicelaw24_awake.q1)) (by kernel_rfl) vec_lit (st' := ⟨62, [(2, .own 2 9 0 ((splicelaw24_awake.q3).length)), (4, .own 4 13 0 ((splicelaw24_awake.q1).length)), (24, .own 2 9 0 ((splicelaw24_awake.q3).length)), (25, .own 4 13 0 ((splicelaw24_awake.q1).length))], [eF76 (splicelaw24_awake.q5), .box 48 (splicelaw24_awake.q6), eR74 (splicelaw24_awake.q3), .box 50 [.i 7, .b true], eR52 (splicelaw24_awake.q1)]⟩) (by kernel_rfl) ?_
 obtain ⟨v1, h1, H⟩ := ibC H
 refine ak_callP (avs := [.own 2 9 0 ((splicelaw24_awake.q3).length), .own 4 13 0 ((splicelaw24_awake.q1).length)]) (dst := some 26) (k' := (K7 1111110 3)) [2, 4, 26] [] hP enters_8 (audit_Check.says (t0 := false) (t1 := false) (splicelaw24_awake.q3) (splicelaw24_awake.q1) h1) (by kernel_rfl) (hands_none _) (.cons (.lend (ty := 74) (by kernel_rfl) rfl) (.cons (.lend (ty := 52) (by kernel_rfl) rfl) .nil)) (st' := ⟨62, [(2, .own 2 9 0 ((splicelaw24_awake.q3).length)), (4, .own 4 13 0 ((splicelaw24_awake.q1).length)), (26, .tup [.own 5 2 0 v1.1.length, .i v1.2])], (splicelaw24_awake.q7 v1)⟩) (by kernel_rfl) ?_
 refine goK hT 9 (K7 11111110 1) ⟨62, [(2, .own 2 9 0 ((splicelaw24_awake.q3).length)), (4, .own 4 13 0 ((splicelaw24_awake.q1).length)), (5, .own 5 2 0 v1.1.length), (6, .i v1.2), (29, .own 4 13 0 ((splicelaw24_awake.q1).length))], (splicelaw24_awake.q7 v1)⟩ ?_
 obtain ⟨h2, H⟩ := iC H
 refine ak_idx hT [2, 4, 5, 6, 30] (i := 2) (n := ((splicelaw24_awake.q1).length : Int)) h2.1 h2.2 (k' := (K7 11111110 2)) (st' := ⟨62, [(2, .own 2 9 0 ((splicelaw24_awake.q3).length)), (4, .own 4 13 0 ((splicelaw24_awake.q1).length)), (5, .own 5 2 0 v1.1.length), (6, .i v1.2), (30, .ptr 4 13 2 0)], (splicelaw24_awake.q7 v1)⟩) (by kernel_rfl) ?_
 refine goK hT 2 (K7 11111110 4) ⟨62, [(2, .own 2 9 0 ((splicelaw24_awake.q3).length)), (4, .own 4 13 0 ((splicelaw24_awake.q1).length)), (5, .own 5 2 0 v1.1.length), (6, .i v1.2), (32, .ptr 4 13 2 10)], (splicelaw24_awake.q7 v1)⟩ ?_
 refine ak_st (id := 4) (kk := 13) (i := 2) (off := 10) (s := 1) (n := (splicelaw24_awake.q1).length) (ty := 52) (ds := [.i 8]) (g := vec api_Event.e api_Event.z (splicelaw24_awake.q1)) (k' := (K7 11111110 5)) hT [2, 4, 5, 6] (vec api_Event.e api_Event.z (splicelaw24_awake.q4)) (by kernel_rfl) (by kernel_rfl) (by first | omega | decide) ((vec_set (by first | omega | decide)).trans (by kernel_rfl)) vec_set_ne (st' := ⟨62, [(2, .own 2 9 0 ((splicelaw24_awake.q3).length)), (4, .own 4 13 0 ((splicelaw24_awake.q1).length)), (5, .own 5 2 0 v1.1.length), (6, .i v1.2)], [.flat true 2 76 (splicelaw24_awake.q5).length (vec api_Pair.e api_Pair.z (splicelaw24_awake.q5)), .box 48 (splicelaw24_awake.q6), .flat false 9 74 (splicelaw24_awake.q3).length (vec api_Entry.e api_Entry.z (splicelaw24_awake.q3)), .box 50 [.i 7, .b true], .flat false 13 52 (splicelaw24_awake.q1).length (vec api_Event.e api_Event.z (splicelaw24_awake.q4)), .flat false 2 41 v1.1.length (vec api_Finding.e api_Finding.z v1.1)]⟩) (by kernel_rfl) ?_
 refine ak_eq (show (splicelaw24_awake.q1).length = (splicelaw24_awake.q4).length from (List.length_set ..).symm) (fun nn => ⟨62, [(2, .own 2 9 0 ((splicelaw24_awake.q3).length)), (4, .own 4 13 0 (nn)), (5, .own 5 2 0 v1.1.length), (6, .i v1.2)], [.flat true 2 76 (splicelaw24_awake.q5).length (vec api_Pair.e api_Pair.z (splicelaw24_awake.q5)), .box 48 (splicelaw24_awake.q6), .flat false 9 74 (splicelaw24_awake.q3).length (vec api_Entry.e api_Entry.z (splicelaw24_awake.q3)), .box 50 [.i 7, .b true], .flat false 13 52 nn (vec api_Event.e api_Event.z (splicelaw24_awake.q4)), .flat false 2 41 v1.1.length (vec api_Finding.e api_Finding.z v1.1)]⟩) ?_
 refine goK hT 5 (K7 111111110 2) ⟨62, [(5, .own 5 2 0 v1.1.length), (6, .i v1.2), (34, .own 2 9 0 ((splicelaw24_awake.q3).length)), (35, .own 4 13 0 ((splicelaw24_awake.q4).length))], [eF76 (splicelaw24_awake.q5), .box 48 (splicelaw24_awake.q6), eR74 (splicelaw24_awake.q3), .box 50 [.i 7, .b true], eR52 (splicelaw24_awake.q4), eR41 v1.1]⟩ ?_
 obtain ⟨v2, h3, H⟩ := ibC H
 have Jj1 : ∀ (y1_0 : Bool), (splicelaw24_awake.j1 y1_0) = some r → AK X 7 ((K7 111111111 1)) (Back X [] (.b r)) ⟨62, [(0, .b y1_0)], []⟩ := by
  intro y1_0 H
  obtain rfl := retC H
  exact ak_ret hf hX (av := .b y1_0) (by kernel_rfl) [] (sel_of_eq (by kernel_rfl)) (by decide) (by rw [h0]; rfl) (by kernel_rfl) (fun _ h => all_nil h) (.d (.v _))
 refine ak_callP (avs := [.own 2 9 0 ((splicelaw24_awake.q3).length), .own 4 13 0 ((splicelaw24_awake.q4).length)]) (dst := some 36) (k' := (K7 111111110 3)) [5, 6, 36] [] hP enters_8 (audit_Check.says (t0 := false) (t1 := false) (splicelaw24_awake.q3) (splicelaw24_awake.q4) h3) (by kernel_rfl) (hands_none _) (.cons (.lend (ty := 74) (by kernel_rfl) rfl) (.cons (.lend (ty := 52) (by kernel_rfl) rfl) .nil)) (st' := ⟨62, [(5, .own 5 2 0 v1.1.length), (6, .i v1.2), (36, .tup [.own 6 2 0 v2.1.length, .i v2.2])], (splicelaw24_awake.q2 v1 v2)⟩) (by kernel_rfl) ?_
 refine goK hT 11 (K7 1111111110 3) ⟨62, [(5, .own 5 2 0 v1.1.length), (7, .own 6 2 0 v2.1.length), (8, .i v2.2), (41, .b (v1.2 == 0))], (splicelaw24_awake.q2 v1 v2)⟩ ?_
 by_cases c4 : v1.2 = 0
 ·replace H := iT c4 H
  rw [eqT c4]
  refine goK hT 5 (K7 1111111110 8) ⟨62, [(7, .own 6 2 0 v2.1.length), (8, .i v2.2), (46, .b ((v1.1.length : Int) == 0))], (splicelaw24_awake.q2 v1 v2)⟩ ?_
  by_cases c5 : (v1.1.length : Int) = 0
  ·replace H := iT c5 H
   rw [eqT c5]
   refine goK hT 4 (K7 1111111110 12) ⟨62, [(7, .own 6 2 0 v2.1.length), (50, .b (v2.2 == 0))], (splicelaw24_awake.q2 v1 v2)⟩ ?_
   by_cases c6 : v2.2 = 0
   ·replace H := iT c6 H
    rw [eqT c6]
    refine goK hT 5 (K7 1111111110 17) ⟨62, [(7, .own 6 2 0 v2.1.length), (55, .b ((v2.1.length : Int) == 1))], (splicelaw24_awake.q2 v1 v2)⟩ ?_
    by_cases c7 : (v2.1.length : Int) = 1
    ·replace H := iT c7 H
     rw [eqT c7]
     refine goK hT 1 (K7 1111111110 18) ⟨62, [(55, .b true), (56, .own 6 2 0 v2.1.length)], (splicelaw24_awake.q2 v1 v2)⟩ ?_
     obtain ⟨h8, H⟩ := iC H
     refine ak_idx hT [55, 57] (i := 0) (n := (v2.1.length : Int)) h8.1 h8.2 (k' := (K7 1111111110 19)) (st' := ⟨62, [(55, .b true), (57, .ptr 6 2 0 0)], (splicelaw24_awake.q2 v1 v2)⟩) (by kernel_rfl) ?_
     refine ak_ld hT [55, 58] (i := 0) (n := v2.1.length) (by first | omega | decide) (k' := (K7 1111111110 20)) (st' := ⟨62, [(55, .b true), (58, .d (eG41 (v2.1.getD 0 api_Finding.z)))], (splicelaw24_awake.q2 v1 v2)⟩) (by kernel_rfl) ?_
     refine goK hT 5 (K7 111111111 1) ⟨62, [(0, .b ((((v2.1.getD 0 api_Finding.z).At) == 2) && (((v2.1.getD 0 api_Finding.z).Why) == 4)))], (splicelaw24_awake.q2 v1 v2)⟩ ?_
     refine cutK [] ⟨62, [(0, .b ((((v2.1.getD 0 api_Finding.z).At) == 2) && (((v2.1.getD 0 api_Finding.z).Why) == 4)))], []⟩ h0 ?_
     exact Jj1 ((((v2.1.getD 0 api_Finding.z).At) == 2) && (((v2.1.getD 0 api_Finding.z).Why) == 4)) H
    ·replace H := iF c7 H
     rw [eqF c7]
     refine goK hT 8 (K7 111111111 1) ⟨62, [(0, .b false)], (splicelaw24_awake.q2 v1 v2)⟩ ?_
     refine cutK [] ⟨62, [(0, .b false)], []⟩ h0 ?_
     exact Jj1 false H
   ·replace H := iF c6 H
    rw [eqF c6]
    refine goK hT 13 (K7 111111111 1) ⟨62, [(0, .b false)], (splicelaw24_awake.q2 v1 v2)⟩ ?_
    refine cutK [] ⟨62, [(0, .b false)], []⟩ h0 ?_
    exact Jj1 false H
  ·replace H := iF c5 H
   rw [eqF c5]
   refine goK hT 17 (K7 111111111 1) ⟨62, [(0, .b false)], (splicelaw24_awake.q2 v1 v2)⟩ ?_
   refine cutK [] ⟨62, [(0, .b false)], []⟩ h0 ?_
   exact Jj1 false H
 ·replace H := iF c4 H
  rw [eqF c4]
  refine goK hT 22 (K7 111111111 1) ⟨62, [(0, .b false)], (splicelaw24_awake.q2 v1 v2)⟩ ?_
  refine cutK [] ⟨62, [(0, .b false)], []⟩ h0 ?_
  exact Jj1 false H


theorem spliceref01_Same.says {t0 : Bool} {t1 : Bool} (a0 : List Int) (a1 : List Int) {r : Bool} (H : spliceref01_Same a0 a1 = some r) : Says Try.prog 20 [] [.d (eL3 t0 a0), .d (eL3 t1 a1)] [] (.b r) := by
 refine says_of Try.func20 rfl (nt := 26) rfl (Nat.le_of_ble_eq_true rfl) fun X hP h0 hX => ?_
 have hT : TabOk X.P T := hP ▸ tok
 have hf : X.P.funcs[20]? = some Try.f20 := hP ▸ Try.func20
 refine goK hT 13 (K20 110 1) ⟨26, [(0, .d (eL3 t0 a0)), (1, .d (eL3 t1 a1)), (10, .b ((a0.length : Int) != (a1.length : Int)))], []⟩ ?_
 by_cases c1 : (a0.length : Int) = (a1.length : Int)
 ·replace H := iT c1 H
  rw [neF c1]
  refine goK hT 2 (K20 11 1) ⟨26, [(0, .d (eL3 t0 a0)), (1, .d (eL3 t1 a1))], []⟩ ?_
  refine goK hT 7 (K20 111010 0) ⟨26, [(0, .d (eL3 t0 a0)), (1, .d (eL3 t1 a1)), (5, .i 0)], []⟩ ?_
  have L : ∀ n, (∀ (x1_5 : Int), iter (spliceref01_Same.step a0 a1) n (.l1 x1_5) = some r → AK X 20 ((K20 111010 0)) (Back X [] (.b r)) ⟨26, [(0, .d (eL3 t0 a0)), (1, .d (eL3 t1 a1)), (5, .i x1_5)], []⟩) := by
   intro n
   induction n with
   | zero => exact fun _ H => iter0 H
   | succ n ih =>
    ·intro x1_5 H
     refine goK hT 8 (K20 11101000 1) ⟨26, [(0, .d (eL3 t0 a0)), (1, .d (eL3 t1 a1)), (5, .i x1_5), (14, .b (decide (x1_5 < (a0.length : Int))))], []⟩ ?_
     by_cases c2 : x1_5 < (a0.length : Int)
     ·replace H := sT c2 H
      rw [decide_eq_true c2]
      refine goK hT 2 (K20 1110100 1) ⟨26, [(0, .d (eL3 t0 a0)), (1, .d (eL3 t1 a1)), (5, .i x1_5)], []⟩ ?_
      refine goK hT 3 (K20 1110100100 0) ⟨26, [(0, .d (eL3 t0 a0)), (1, .d (eL3 t1 a1)), (5, .i x1_5)], []⟩ ?_
      obtain ⟨h3, H⟩ := sC H
      obtain ⟨h4, H⟩ := sC H
      refine drawK (hP ▸ mixed) 9 [0, 1, 5] [some (.d (eL3 t0 a0)), some (.i x1_5), some (.d (eP3 t0 a0 x1_5.toNat 0)), some (.i (a0.getD x1_5.toNat 0)), some (.d (eL3 t1 a1)), some (.i x1_5), some (.d (eP3 t1 a1 x1_5.toNat 0)), some (.i (a1.getD x1_5.toNat 0)), some (.b ((a0.getD x1_5.toNat 0) != (a1.getD x1_5.toNat 0)))] (opG (opG (opS (opG (opG (opG (opS (opG (opG op0 hT) hT) (fun R rest h => ak_idx0 hT (i := x1_5) (n := (a0.length : Int)) h3.1 h3.2 (by kernel_rfl) h)) hT) hT) hT) (fun R rest h => ak_idx0 hT (i := x1_5) (n := (a1.length : Int)) h4.1 h4.2 (by kernel_rfl) h)) hT) hT) ?_
      refine goK hT 1 (K20 1110100100 1) ⟨26, [(0, .d (eL3 t0 a0)), (1, .d (eL3 t1 a1)), (5, .i x1_5), (25, .b ((a0.getD x1_5.toNat 0) != (a1.getD x1_5.toNat 0)))], []⟩ ?_
      by_cases c5 : (a0.getD x1_5.toNat 0) = (a1.getD x1_5.toNat 0)
      ·replace H := sT c5 H
       rw [neF c5]
       refine goK hT 3 (K20 11101001 1) ⟨26, [(0, .d (eL3 t0 a0)), (1, .d (eL3 t1 a1)), (5, .i x1_5)], []⟩ ?_
       refine goK hT 6 (K20 111010 0) ⟨26, [(0, .d (eL3 t0 a0)), (1, .d (eL3 t1 a1)), (5, .i (IntKind.wrap .i64 (x1_5 + 1)))], []⟩ ?_
       refine cutK [] ⟨26, [(0, .d (eL3 t0 a0)), (1, .d (eL3 t1 a1)), (5, .i (IntKind.wrap .i64 (x1_5 + 1)))], []⟩ h0 ?_
       exact ih (IntKind.wrap .i64 (x1_5 + 1)) H
      ·replace H := sF c5 H
       rw [neT c5]
       refine goK hT 5 (K20 111010010010 1) ⟨26, [(4, .b false)], []⟩ ?_
       obtain rfl := retC H
       exact ak_ret hf hX (av := .b false) (by kernel_rfl) [] (sel_of_eq (by kernel_rfl)) (by decide) (by rw [h0]; rfl) (by kernel_rfl) (fun _ h => all_nil h) (.d (.v _))
     ·replace H := sF c2 H
      rw [decide_eq_false c2]
      refine goK hT 6 (K20 1111 1) ⟨26, [(4, .b true)], []⟩ ?_
      obtain rfl := retC H
      exact ak_ret hf hX (av := .b true) (by kernel_rfl) [] (sel_of_eq (by kernel_rfl)) (by decide) (by rw [h0]; rfl) (by kernel_rfl) (fun _ h => all_nil h) (.d (.v _))
  refine cutK [] ⟨26, [(0, .d (eL3 t0 a0)), (1, .d (eL3 t1 a1)), (5, .i 0)], []⟩ h0 ?_
  obtain ⟨n, H⟩ := loopC H
  exact (L n) 0 H
 ·replace H := iF c1 H
  rw [neT c1]
  refine goK hT 5 (K20 11010 1) ⟨26, [(4, .b false)], []⟩ ?_
  obtain rfl := retC H
  exact ak_ret hf hX (av := .b false) (by kernel_rfl) [] (sel_of_eq (by kernel_rfl)) (by decide) (by rw [h0]; rfl) (by kernel_rfl) (fun _ h => all_nil h) (.d (.v _))


theorem splicelaw24_AuditPending.says {t1 : Bool} (a0 : List api_Entry) (a1 : List api_Event) (a2 : splicelaw24_Ask) {r : Bool} (H : splicelaw24_AuditPending a0 a1 a2 = some r) : Says Try.prog 5 [] [.d (eL74 true a0), .d (eL52 t1 a1), .d (eG64 a2)] [] (.b r) := by
 refine says_of Try.func5 rfl (nt := 98) rfl (Nat.le_of_ble_eq_true rfl) fun X hP h0 hX => ?_
 have hT : TabOk X.P T := hP ▸ tok
 have hf : X.P.funcs[5]? = some Try.f5 := hP ▸ Try.func5
 refine goK hT 10 (K5 1100 2) ⟨98, [(0, .d (eL74 true a0)), (1, .d (eL52 t1 a1)), (5, .ptr 0 0 0 0), (12, .d (eL74 true a0)), (13, .d (eL52 t1 a1))], [.box 64 (eC64 a2)]⟩ ?_
 obtain ⟨v1, h1, H⟩ := ibC H
 refine ak_callP (avs := [.d (eL74 true a0), .d (eL52 t1 a1)]) (dst := some 14) (k' := (K5 1100 3)) [0, 1, 5, 14] [] hP enters_6 (splicelaw24_few.says (t0 := true) (t1 := t1) a0 a1 h1) (by kernel_rfl) (hands_none _) (.cons (pass_d _) (.cons (pass_d _) .nil)) (st' := ⟨98, [(0, .d (eL74 true a0)), (1, .d (eL52 t1 a1)), (5, .ptr 0 0 0 0), (14, .b v1)], [.box 64 (eC64 a2)]⟩) (by kernel_rfl) ?_
 refine goK hT 2 (K5 110 1) ⟨98, [(0, .d (eL74 true a0)), (1, .d (eL52 t1 a1)), (5, .ptr 0 0 0 0), (15, .b (!v1))], [.box 64 (eC64 a2)]⟩ ?_
 by_cases c2 : v1 = true
 ·replace H := iT c2 H
  rw [c2]
  refine goK hT 2 (K5 11 1) ⟨98, [(0, .d (eL74 true a0)), (1, .d (eL52 t1 a1)), (5, .ptr 0 0 0 0)], [.box 64 (eC64 a2)]⟩ ?_
  refine goK hT 10 (K5 1110 8) ⟨98, [(0, .d (eL74 true a0)), (1, .d (eL52 t1 a1)), (5, .ptr 0 0 0 0), (17, .d (eL74 true a0)), (18, .d (eL52 t1 a1)), (20, .i a2.At), (22, .i a2.Client), (24, .i a2.Mark)], [.box 64 (eC64 a2)]⟩ ?_
  obtain ⟨v3, h4, H⟩ := ibC H
  refine ak_callP (avs := [.d (eL74 true a0), .d (eL52 t1 a1), .i a2.At, .i a2.Client, .i a2.Mark]) (dst := some 25) (k' := (K5 1110 9)) [0, 1, 5, 25] [] hP enters_17 (audit_Pending.says (t0 := true) (t1 := t1) a0 a1 a2.At a2.Client a2.Mark h4) (by kernel_rfl) (hands_none _) (.cons (pass_d _) (.cons (pass_d _) (.cons (pass_d _) (.cons (pass_d _) (.cons (pass_d _) .nil))))) (st' := ⟨98, [(0, .d (eL74 true a0)), (1, .d (eL52 t1 a1)), (5, .ptr 0 0 0 0), (25, .own 1 7 0 v3.length)], [.box 64 (eC64 a2), eR48 v3]⟩) (by kernel_rfl) ?_
  refine goK hT 3 (K5 1111 0) ⟨98, [(0, .d (eL74 true a0)), (1, .d (eL52 t1 a1)), (5, .ptr 0 0 0 0), (7, .own 1 7 0 v3.length)], [.box 64 (eC64 a2), eR48 v3]⟩ ?_
  obtain ⟨v4, h5, H⟩ := ibC H
  obtain ⟨v5, h6, H⟩ := ibC H
  refine ak_drawAtE (nt := 98) (hP ▸ mixed) 10 [3] [0, 1, 5, 7] [(0, .d (eL74 true a0)), (1, .d (eL52 t1 a1)), (5, .ptr 0 0 0 0), (7, .own 1 7 0 v3.length)] [some (.d (eL74 true a0)), some (.d (eL98 true v4)), some (.d (eL52 t1 a1)), some (.own 2 13 0 v5.length), some (.ptr 0 0 0 0), some (.i a2.At), some (.ptr 0 0 0 1), some (.i a2.Client), some (.ptr 0 0 0 2), some (.i a2.Mark)] [[.box 64 (eC64 a2), eR48 v3], [.box 64 (eC64 a2), eR48 v3, eR91 v5]] (by kernel_rfl) (by kernel_rfl) (by kernel_rfl) (by kernel_rfl) ⟨(opGE (opGE (opGE (opGE (opGE (opGE (opXE (opGE (opES (opGE opE0 hT) (fun R rest h => ak_callD (avs := [.d (eL74 true a0)]) (dst := some 27) hP enters_10 (splicelaw24_Entries.says a0 h5) (by kernel_rfl) (.cons (pass_d _) .nil) (by kernel_rfl) h)) hT)) hT) hT) hT) hT) hT) hT), (fun R rest h => ak_callDE (avs := [.d (eL52 t1 a1)]) (dst := some 29) hP enters_11 (splicelaw24_events.says (t0 := t1) a1 h6) (by kernel_rfl) (.cons (pass_d _) .nil) (by kernel_rfl) h), (opGE (opGE (opGE (opGE (opGE (opGE (opXE (opGE (opES (opGE opE0 hT) (fun R rest h => ak_callD (avs := [.d (eL74 true a0)]) (dst := some 27) hP enters_10 (splicelaw24_Entries.says a0 h5) (by kernel_rfl) (.cons (pass_d _) .nil) (by kernel_rfl) h)) hT)) hT) hT) hT) hT) hT) hT)⟩ ?_
  refine goK hT 0 (K5 11110 10) ⟨98, [(1, .d (eL52 t1 a1)), (5, .ptr 0 0 0 0), (7, .own 1 7 0 v3.length), (27, .d (eL98 true v4)), (29, .own 2 13 0 v5.length), (31, .i a2.At), (33, .i a2.Client), (35, .i a2.Mark)], [.box 64 (eC64 a2), eR48 v3, eR91 v5]⟩ ?_
  obtain ⟨v6, h7, H⟩ := ibC H
  refine ak_callP (avs := [.d (eL98 true v4), .own 2 13 0 v5.length, .i a2.At, .i a2.Client, .i a2.Mark]) (dst := some 36) (k' := (K5 11110 11)) [1, 5, 7, 36] [] hP enters_18 (spliceref24_Pending.says (t0 := true) (t1 := false) v4 v5 a2.At a2.Client a2.Mark h7) (by kernel_rfl) (hands_none _) (.cons (pass_d _) (.cons (.lend (ty := 91) (by kernel_rfl) rfl) (.cons (pass_d _) (.cons (pass_d _) (.cons (pass_d _) .nil))))) (st' := ⟨98, [(1, .d (eL52 t1 a1)), (5, .ptr 0 0 0 0), (7, .own 1 7 0 v3.length), (36, .own 3 7 0 v6.length)], [.box 64 (eC64 a2), eR48 v3, eR91 v5, eR57 v6]⟩) (by kernel_rfl) ?_
  refine goK hT 11 (K5 111110 1) ⟨98, [(1, .d (eL52 t1 a1)), (5, .ptr 0 0 0 0), (7, .own 1 7 0 v3.length), (8, .own 3 7 0 v6.length), (41, .b ((v3.length : Int) != (v6.length : Int)))], [.box 64 (eC64 a2), eR48 v3, eR91 v5, eR57 v6]⟩ ?_
  by_cases c8 : (v3.length : Int) = (v6.length : Int)
  ·replace H := iT c8 H
   rw [neF c8]
   refine goK hT 2 (K5 11111 1) ⟨98, [(1, .d (eL52 t1 a1)), (5, .ptr 0 0 0 0), (7, .own 1 7 0 v3.length), (8, .own 3 7 0 v6.length)], [.box 64 (eC64 a2), eR48 v3, eR91 v5, eR57 v6]⟩ ?_
   refine goK hT 7 (K5 111111010 0) ⟨98, [(1, .d (eL52 t1 a1)), (5, .ptr 0 0 0 0), (7, .own 1 7 0 v3.length), (8, .own 3 7 0 v6.length), (9, .i 0)], [.box 64 (eC64 a2), eR48 v3, eR91 v5, eR57 v6]⟩ ?_
   have L : ∀ n, (∀ (x1_9 : Int), iter (splicelaw24_AuditPending.step a1 a2 v3 v6) n (.l1 x1_9) = some r → AK X 5 ((K5 111111010 0)) (Back X [] (.b r)) ⟨98, [(1, .d (eL52 t1 a1)), (5, .ptr 0 0 0 0), (7, .own 1 7 0 v3.length), (8, .own 2 7 0 v6.length), (9, .i x1_9)], [.box 64 (eC64 a2), eR48 v3, eR57 v6]⟩) ∧ (∀ (x2_11 : Int) (x2_r1 : List Int), iter (splicelaw24_AuditPending.step a1 a2 v3 v6) n (.l2 x2_11 x2_r1) = some r → AK X 5 ((K5 11111111010 0)) (Back X [] (.b r)) ⟨98, [(1, .d (eL52 t1 a1)), (5, .ptr 0 0 0 0), (10, .own 1 1 0 x2_r1.length), (11, .i x2_11)], [.box 64 (eC64 a2), eR3 x2_r1]⟩) := by
    intro n
    induction n with
    | zero => exact ⟨fun _ H => iter0 H, fun _ _ H => iter0 H⟩
    | succ n ih =>
     refine ⟨?_, ?_⟩
     ·intro x1_9 H
      refine goK hT 8 (K5 11111101000 1) ⟨98, [(1, .d (eL52 t1 a1)), (5, .ptr 0 0 0 0), (7, .own 1 7 0 v3.length), (8, .own 2 7 0 v6.length), (9, .i x1_9), (45, .b (decide (x1_9 < (v3.length : Int))))], [.box 64 (eC64 a2), eR48 v3, eR57 v6]⟩ ?_
      by_cases c9 : x1_9 < (v3.length : Int)
      ·replace H := sT c9 H
       rw [decide_eq_true c9]
       refine goK hT 2 (K5 1111110100 1) ⟨98, [(1, .d (eL52 t1 a1)), (5, .ptr 0 0 0 0), (7, .own 1 7 0 v3.length), (8, .own 2 7 0 v6.length), (9, .i x1_9)], [.box 64 (eC64 a2), eR48 v3, eR57 v6]⟩ ?_
       refine goK hT 3 (K5 1111110100100 0) ⟨98, [(1, .d (eL52 t1 a1)), (5, .ptr 0 0 0 0), (7, .own 1 7 0 v3.length), (8, .own 2 7 0 v6.length), (9, .i x1_9)], [.box 64 (eC64 a2), eR48 v3, eR57 v6]⟩ ?_
       obtain ⟨h10, H⟩ := sC H
       obtain ⟨v7, h11, H⟩ := sbC H
       obtain ⟨h12, H⟩ := sC H
       obtain ⟨v8, h13, H⟩ := sbC H
       refine drawK (hP ▸ mixed) 11 [1, 5, 7, 8, 9] [some (.own 1 7 0 v3.length), some (.i x1_9), some (.ptr 1 7 x1_9.toNat 0), some (.d (eG48 (v3.getD x1_9.toNat api_Mut.z))), some (.d (eG57 v7)), some (.own 2 7 0 v6.length), some (.i x1_9), some (.ptr 2 7 x1_9.toNat 0), some (.d (eG57 (v6.getD x1_9.toNat spliceref04_Mut.z))), some (.b v8), some (.b (!v8))] (opG (opS (opS (opS (opG (opG (opS (opS (opS (opG (opG op0 hT) hT) (fun R rest h => ak_idx0 hT (i := x1_9) (n := (v3.length : Int)) h10.1 h10.2 (by kernel_rfl) h)) (fun R rest h => ak_ld0 hT (i := x1_9.toNat) (n := v3.length) (ltN h10.1 h10.2) (by kernel_rfl) h)) (fun R rest h => ak_callD (avs := [.d (eG48 (v3.getD x1_9.toNat api_Mut.z))]) (dst := some 52) hP enters_15 (splicelaw04_Ref.says (v3.getD x1_9.toNat api_Mut.z) h11) (by kernel_rfl) (.cons (pass_d _) .nil) (by kernel_rfl) h)) hT) hT) (fun R rest h => ak_idx0 hT (i := x1_9) (n := (v6.length : Int)) h12.1 h12.2 (by kernel_rfl) h)) (fun R rest h => ak_ld0 hT (i := x1_9.toNat) (n := v6.length) (ltN h12.1 h12.2) (by kernel_rfl) h)) (fun R rest h => ak_callD (avs := [.d (eG57 v7), .d (eG57 (v6.getD x1_9.toNat spliceref04_Mut.z))]) (dst := some 57) hP enters_19 (spliceref04_Same.says v7 (v6.getD x1_9.toNat spliceref04_Mut.z) h13) (by kernel_rfl) (.cons (pass_d _) (.cons (pass_d _) .nil)) (by kernel_rfl) h)) hT) ?_
       refine goK hT 1 (K5 1111110100100 1) ⟨98, [(1, .d (eL52 t1 a1)), (5, .ptr 0 0 0 0), (7, .own 1 7 0 v3.length), (8, .own 2 7 0 v6.length), (9, .i x1_9), (58, .b (!v8))], [.box 64 (eC64 a2), eR48 v3, eR57 v6]⟩ ?_
       by_cases c14 : v8 = true
       ·replace H := sT c14 H
        rw [c14]
        refine goK hT 3 (K5 11111101001 1) ⟨98, [(1, .d (eL52 t1 a1)), (5, .ptr 0 0 0 0), (7, .own 1 7 0 v3.length), (8, .own 2 7 0 v6.length), (9, .i x1_9)], [.box 64 (eC64 a2), eR48 v3, eR57 v6]⟩ ?_
        refine goK hT 6 (K5 111111010 0) ⟨98, [(1, .d (eL52 t1 a1)), (5, .ptr 0 0 0 0), (7, .own 1 7 0 v3.length), (8, .own 2 7 0 v6.length), (9, .i (IntKind.wrap .i64 (x1_9 + 1)))], [.box 64 (eC64 a2), eR48 v3, eR57 v6]⟩ ?_
        refine cutK [0, 1, 2] ⟨98, [(1, .d (eL52 t1 a1)), (5, .ptr 0 0 0 0), (7, .own 1 7 0 v3.length), (8, .own 2 7 0 v6.length), (9, .i (IntKind.wrap .i64 (x1_9 + 1)))], [.box 64 (eC64 a2), eR48 v3, eR57 v6]⟩ h0 ?_
        exact ih.1 (IntKind.wrap .i64 (x1_9 + 1)) H
       ·replace H := sF c14 H
        rw [boF c14]
        refine goK hT 5 (K5 111111010010010 1) ⟨98, [(6, .b false)], [.box 64 (eC64 a2), eR48 v3, eR57 v6]⟩ ?_
        obtain rfl := retC H
        exact ak_ret hf hX (av := .b false) (by kernel_rfl) [] (sel_of_eq (by kernel_rfl)) (by decide) (by rw [h0]; rfl) (by kernel_rfl) (fun _ h => all_nil h) (.d (.v _))
      ·replace H := sF c9 H
       rw [decide_eq_false c9]
       refine goK hT 13 (K5 11111111010 0) ⟨98, [(1, .d (eL52 t1 a1)), (5, .ptr 0 0 0 0), (10, .ns), (11, .i 0)], [.box 64 (eC64 a2), eR48 v3, eR57 v6]⟩ ?_
       refine ak_nilS [1, 5, 10, 11] 10 1 3 (vec (eI .i64) 0 []) (st' := ⟨98, [(1, .d (eL52 t1 a1)), (5, .ptr 0 0 0 0), (10, .own 3 1 0 0), (11, .i 0)], [.box 64 (eC64 a2), eR48 v3, eR57 v6, eR3 ([] : List Int)]⟩) (by kernel_rfl) (by kernel_rfl) ?_
       refine cutK [0, 3] ⟨98, [(1, .d (eL52 t1 a1)), (5, .ptr 0 0 0 0), (10, .own 1 1 0 ([] : List Int).length), (11, .i 0)], [.box 64 (eC64 a2), eR3 ([] : List Int)]⟩ h0 ?_
       exact ih.2 0 ([] : List Int) H
     ·intro x2_11 x2_r1 H
      refine goK hT 8 (K5 1111111101000 1) ⟨98, [(1, .d (eL52 t1 a1)), (5, .ptr 0 0 0 0), (10, .own 1 1 0 x2_r1.length), (11, .i x2_11), (62, .b (decide (x2_11 < (a1.length : Int))))], [.box 64 (eC64 a2), eR3 x2_r1]⟩ ?_
      by_cases c15 : x2_11 < (a1.length : Int)
      ·replace H := sT c15 H
       rw [decide_eq_true c15]
       refine goK hT 2 (K5 111111110100 1) ⟨98, [(1, .d (eL52 t1 a1)), (5, .ptr 0 0 0 0), (10, .own 1 1 0 x2_r1.length), (11, .i x2_11)], [.box 64 (eC64 a2), eR3 x2_r1]⟩ ?_
       refine goK hT 3 (K5 111111110100100 0) ⟨98, [(1, .d (eL52 t1 a1)), (5, .ptr 0 0 0 0), (10, .own 1 1 0 x2_r1.length), (11, .i x2_11)], [.box 64 (eC64 a2), eR3 x2_r1]⟩ ?_
       obtain ⟨h20, H⟩ := sC H
       have Jj2 : ∀ (y2_80 : Bool), stk (splicelaw24_AuditPending.j2 a1 x2_11 x2_r1 y2_80) (iter (splicelaw24_AuditPending.step a1 a2 v3 v6) n) = some r → AK X 5 ((K5 111111110100100 1)) (Back X [] (.b r)) ⟨98, [(1, .d (eL52 t1 a1)), (5, .ptr 0 0 0 0), (10, .own 1 1 0 x2_r1.length), (11, .i x2_11), (80, .b y2_80)], [.box 64 (eC64 a2), eR3 x2_r1]⟩ := by
        intro y2_80 H
        have Jj3 : ∀ (y3_r1 : List Int), stk (splicelaw24_AuditPending.j3 x2_11 y3_r1) (iter (splicelaw24_AuditPending.step a1 a2 v3 v6) n) = some r → AK X 5 ((K5 1111111101001 1)) (Back X [] (.b r)) ⟨98, [(1, .d (eL52 t1 a1)), (5, .ptr 0 0 0 0), (10, .own 1 1 0 y3_r1.length), (11, .i x2_11)], [.box 64 (eC64 a2), eR3 y3_r1]⟩ := by
         intro y3_r1 H
         refine goK hT 6 (K5 11111111010 0) ⟨98, [(1, .d (eL52 t1 a1)), (5, .ptr 0 0 0 0), (10, .own 1 1 0 y3_r1.length), (11, .i (IntKind.wrap .i64 (x2_11 + 1)))], [.box 64 (eC64 a2), eR3 y3_r1]⟩ ?_
         refine cutK [0, 1] ⟨98, [(1, .d (eL52 t1 a1)), (5, .ptr 0 0 0 0), (10, .own 1 1 0 y3_r1.length), (11, .i (IntKind.wrap .i64 (x2_11 + 1)))], [.box 64 (eC64 a2), eR3 y3_r1]⟩ h0 ?_
         exact ih.2 (IntKind.wrap .i64 (x2_11 + 1)) y3_r1 H
        by_cases c22 : y2_80 = true
        ·replace H := sT c22 H
         rw [c22]
         refine goK hT 5 (K5 11111111010010010 3) ⟨98, [(1, .d (eL52 t1 a1)), (5, .ptr 0 0 0 0), (11, .i x2_11), (81, .own 1 1 0 x2_r1.length), (82, .d (eL52 t1 a1)), (83, .i x2_11)], [.box 64 (eC64 a2), eR3 x2_r1]⟩ ?_
         refine ak_idx hT [1, 5, 11, 81, 84] (i := x2_11) (n := (a1.length : Int)) h20.1 h20.2 (k' := (K5 11111111010010010 4)) (st' := ⟨98, [(1, .d (eL52 t1 a1)), (5, .ptr 0 0 0 0), (11, .i x2_11), (81, .own 1 1 0 x2_r1.length), (84, .d (eP52 t1 a1 x2_11.toNat 0))], [.box 64 (eC64 a2), eR3 x2_r1]⟩) (by kernel_rfl) ?_
         refine goK hT 3 (K5 11111111010010010 7) ⟨98, [(1, .d (eL52 t1 a1)), (5, .ptr 0 0 0 0), (11, .i x2_11), (81, .own 1 1 0 x2_r1.length), (87, .own 2 1 0 1)], [.box 64 (eC64 a2), eR3 x2_r1, .flat false 1 3 1 (fun j => [[.i ((a1.getD x2_11.toNat api_Event.z).Mark)]].getD j [])]⟩ ?_
         obtain ⟨h23, H⟩ := sC H
         refine ak_append1 (id := 1) (kk := 1) (by' := 8) (t := 42) (e := 3) (z := [.int .i64 0]) (dst := some 88) (id2 := 2) (e2 := 3) (fz := false) (k' := (K5 11111111010010010 8)) hT (eI .i64) 0 x2_r1 ((a1.getD x2_11.toNat api_Event.z).Mark) [1, 5, 11, 88] (by kernel_rfl) (by kernel_rfl) (by kernel_rfl) (by kernel_rfl) (by kernel_rfl) (by kernel_rfl) (by kernel_rfl) h23 (by omega) (st' := ⟨98, [(1, .d (eL52 t1 a1)), (5, .ptr 0 0 0 0), (11, .i x2_11), (88, .own 3 1 0 ((x2_r1 ++ [(a1.getD x2_11.toNat api_Event.z).Mark]).length))], [.box 64 (eC64 a2), .gone, .flat false 1 3 1 (fun j => [[.i ((a1.getD x2_11.toNat api_Event.z).Mark)]].getD j []), eR3 (x2_r1 ++ [(a1.getD x2_11.toNat api_Event.z).Mark])]⟩) (by kernel_rfl) ?_
         refine goK hT 3 (K5 1111111101001 1) ⟨98, [(1, .d (eL52 t1 a1)), (5, .ptr 0 0 0 0), (10, .own 3 1 0 ((x2_r1 ++ [(a1.getD x2_11.toNat api_Event.z).Mark]).length)), (11, .i x2_11)], [.box 64 (eC64 a2), .gone, .flat false 1 3 1 (fun j => [[.i ((a1.getD x2_11.toNat api_Event.z).Mark)]].getD j []), eR3 (x2_r1 ++ [(a1.getD x2_11.toNat api_Event.z).Mark])]⟩ ?_
         refine cutK [0, 3] ⟨98, [(1, .d (eL52 t1 a1)), (5, .ptr 0 0 0 0), (10, .own 1 1 0 (x2_r1 ++ [(a1.getD x2_11.toNat api_Event.z).Mark]).length), (11, .i x2_11)], [.box 64 (eC64 a2), eR3 (x2_r1 ++ [(a1.getD x2_11.toNat api_Event.z).Mark])]⟩ h0 ?_
         exact Jj3 (x2_r1 ++ [(a1.getD x2_11.toNat api_Event.z).Mark]) H
        ·replace H := sF c22 H
         rw [boF c22]
         refine goK hT 3 (K5 1111111101001 1) ⟨98, [(1, .d (eL52 t1 a1)), (5, .ptr 0 0 0 0), (10, .own 1 1 0 x2_r1.length), (11, .i x2_11)], [.box 64 (eC64 a2), eR3 x2_r1]⟩ ?_
         refine cutK [0, 1] ⟨98, [(1, .d (eL52 t1 a1)), (5, .ptr 0 0 0 0), (10, .own 1 1 0 x2_r1.length), (11, .i x2_11)], [.box 64 (eC64 a2), eR3 x2_r1]⟩ h0 ?_
         exact Jj3 x2_r1 H
       by_cases c21 : ((a1.getD x2_11.toNat api_Event.z).Kind) = 2
       ·replace H := sT c21 H
        refine drawK (hP ▸ mixed) 16 [1, 5, 10, 11] [some (.d (eL52 t1 a1)), some (.i x2_11), some (.d (eP52 t1 a1 x2_11.toNat 0)), some (.d (eP52 t1 a1 x2_11.toNat 0)), some (.i ((a1.getD x2_11.toNat api_Event.z).Kind)), some (.b true), some (.b true), some (.d (eL52 t1 a1)), some (.i x2_11), some (.d (eP52 t1 a1 x2_11.toNat 0)), some (.d (eP52 t1 a1 x2_11.toNat 1)), some (.i ((a1.getD x2_11.toNat api_Event.z).Client)), some (.ptr 0 0 0 1), some (.i a2.Client), some (.b (((a1.getD x2_11.toNat api_Event.z).Client) == a2.Client)), some (.b (((a1.getD x2_11.toNat api_Event.z).Client) == a2.Client))] (opG (opG (opG (opG (opG (opG (opS (opG (opG (opG (opV (opG (opG (opS (opG (opG op0 hT) hT) (fun R rest h => ak_idx0 hT (i := x2_11) (n := (a1.length : Int)) h20.1 h20.2 (by kernel_rfl) h)) hT) hT) hT 70 (.b (((a1.getD x2_11.toNat api_Event.z).Kind) == 2)) (.b true) (by rw [eqT c21] <;> rfl)) hT) hT) hT) (fun R rest h => ak_idx0 hT (i := x2_11) (n := (a1.length : Int)) h20.1 h20.2 (by kernel_rfl) h)) hT) hT) hT) hT) hT) hT) ?_
        refine goK hT 1 (K5 111111110100100 1) ⟨98, [(1, .d (eL52 t1 a1)), (5, .ptr 0 0 0 0), (10, .own 1 1 0 x2_r1.length), (11, .i x2_11), (80, .b (((a1.getD x2_11.toNat api_Event.z).Client) == a2.Client))], [.box 64 (eC64 a2), eR3 x2_r1]⟩ ?_
        refine cutK [0, 1] ⟨98, [(1, .d (eL52 t1 a1)), (5, .ptr 0 0 0 0), (10, .own 1 1 0 x2_r1.length), (11, .i x2_11), (80, .b (((a1.getD x2_11.toNat api_Event.z).Client) == a2.Client))], [.box 64 (eC64 a2), eR3 x2_r1]⟩ h0 ?_
        exact Jj2 (((a1.getD x2_11.toNat api_Event.z).Client) == a2.Client) H
       ·replace H := sF c21 H
        refine drawK (hP ▸ mixed) 16 [1, 5, 10, 11] [some (.d (eL52 t1 a1)), some (.i x2_11), some (.d (eP52 t1 a1 x2_11.toNat 0)), some (.d (eP52 t1 a1 x2_11.toNat 0)), some (.i ((a1.getD x2_11.toNat api_Event.z).Kind)), some (.b false), some (.b false), some (.tup []), some (.tup []), some (.tup []), some (.tup []), some (.tup []), some (.tup []), some (.tup []), some (.tup []), some (.b false)] (opG (opG (opG (opG (opG (opG (opG (opG (opG (opG (opV (opG (opG (opS (opG (opG op0 hT) hT) (fun R rest h => ak_idx0 hT (i := x2_11) (n := (a1.length : Int)) h20.1 h20.2 (by kernel_rfl) h)) hT) hT) hT 70 (.b (((a1.getD x2_11.toNat api_Event.z).Kind) == 2)) (.b false) (by rw [eqF c21] <;> rfl)) hT) hT) hT) hT) hT) hT) hT) hT) hT) hT) ?_
        refine goK hT 1 (K5 111111110100100 1) ⟨98, [(1, .d (eL52 t1 a1)), (5, .ptr 0 0 0 0), (10, .own 1 1 0 x2_r1.length), (11, .i x2_11), (80, .b false)], [.box 64 (eC64 a2), eR3 x2_r1]⟩ ?_
        refine cutK [0, 1] ⟨98, [(1, .d (eL52 t1 a1)), (5, .ptr 0 0 0 0), (10, .own 1 1 0 x2_r1.length), (11, .i x2_11), (80, .b false)], [.box 64 (eC64 a2), eR3 x2_r1]⟩ h0 ?_
        exact Jj2 false H
      ·replace H := sF c15 H
       rw [decide_eq_false c15]
       refine goK hT 4 (K5 1111111110 0) ⟨98, [(1, .d (eL52 t1 a1)), (5, .ptr 0 0 0 0), (10, .own 1 1 0 x2_r1.length)], [.box 64 (eC64 a2), eR3 x2_r1]⟩ ?_
       obtain ⟨v9, h16, H⟩ := sbC H
       have Jj1 : ∀ (y1_6 : Bool), stk (splicelaw24_AuditPending.j1 y1_6) (iter (splicelaw24_AuditPending.step a1 a2 v3 v6) n) = some r → AK X 5 ((K5 111111111 1)) (Back X [] (.b r)) ⟨98, [(6, .b y1_6)], []⟩ := by
        intro y1_6 H
        obtain rfl := retC H
        exact ak_ret hf hX (av := .b y1_6) (by kernel_rfl) [] (sel_of_eq (by kernel_rfl)) (by decide) (by rw [h0]; rfl) (by kernel_rfl) (fun _ h => all_nil h) (.d (.v _))
       refine ak_callP (avs := []) (dst := some 89) (k' := (K5 1111111110 1)) [1, 5, 10, 89] [] hP enters_7 (splicelaw24_awake.says h16) (by kernel_rfl) (hands_none _) .nil (st' := ⟨98, [(1, .d (eL52 t1 a1)), (5, .ptr 0 0 0 0), (10, .own 1 1 0 x2_r1.length), (89, .b v9)], [.box 64 (eC64 a2), eR3 x2_r1]⟩) (by kernel_rfl) ?_
       refine goK hT 1 (K5 1111111110 2) ⟨98, [(1, .d (eL52 t1 a1)), (5, .ptr 0 0 0 0), (10, .own 1 1 0 x2_r1.length), (90, .b v9)], [.box 64 (eC64 a2), eR3 x2_r1]⟩ ?_
       by_cases c17 : v9 = true
       ·replace H := sT c17 H
        rw [c17]
        refine goK hT 3 (K5 1111111110 5) ⟨98, [(10, .own 1 1 0 x2_r1.length), (90, .b true), (91, .d (eL52 t1 a1)), (93, .i a2.Client)], [.box 64 (eC64 a2), eR3 x2_r1]⟩ ?_
        obtain ⟨v10, h18, H⟩ := sbC H
        refine ak_callP (avs := [.d (eL52 t1 a1), .i a2.Client]) (dst := some 94) (k' := (K5 1111111110 6)) [10, 90, 94] [] hP enters_21 (audit_Marks.says (t0 := t1) a1 a2.Client h18) (by kernel_rfl) (hands_none _) (.cons (pass_d _) (.cons (pass_d _) .nil)) (st' := ⟨98, [(10, .own 1 1 0 x2_r1.length), (90, .b true), (94, .own 2 1 0 v10.length)], [.box 64 (eC64 a2), eR3 x2_r1, eR3 v10]⟩) (by kernel_rfl) ?_
        refine goK hT 1 (K5 1111111110 7) ⟨98, [(90, .b true), (94, .own 2 1 0 v10.length), (95, .own 1 1 0 x2_r1.length)], [.box 64 (eC64 a2), eR3 x2_r1, eR3 v10]⟩ ?_
        obtain ⟨v11, h19, H⟩ := sbC H
        refine ak_callP (avs := [.own 2 1 0 v10.length, .own 1 1 0 x2_r1.length]) (dst := some 96) (k' := (K5 1111111110 8)) [90, 96] [] hP enters_20 (spliceref01_Same.says (t0 := false) (t1 := false) v10 x2_r1 h19) (by kernel_rfl) (hands_none _) (.cons (.lend (ty := 3) (by kernel_rfl) rfl) (.cons (.lend (ty := 3) (by kernel_rfl) rfl) .nil)) (st' := ⟨98, [(90, .b true), (96, .b v11)], [.box 64 (eC64 a2), eR3 x2_r1, eR3 v10]⟩) (by kernel_rfl) ?_
        refine goK hT 3 (K5 111111111 1) ⟨98, [(6, .b v11)], [.box 64 (eC64 a2), eR3 x2_r1, eR3 v10]⟩ ?_
        refine cutK [] ⟨98, [(6, .b v11)], []⟩ h0 ?_
        exact Jj1 v11 H
       ·replace H := sF c17 H
        rw [boF c17]
        refine goK hT 9 (K5 111111111 1) ⟨98, [(6, .b false)], [.box 64 (eC64 a2), eR3 x2_r1]⟩ ?_
        refine cutK [] ⟨98, [(6, .b false)], []⟩ h0 ?_
        exact Jj1 false H
   refine cutK [0, 1, 3] ⟨98, [(1, .d (eL52 t1 a1)), (5, .ptr 0 0 0 0), (7, .own 1 7 0 v3.length), (8, .own 2 7 0 v6.length), (9, .i 0)], [.box 64 (eC64 a2), eR48 v3, eR57 v6]⟩ h0 ?_
   obtain ⟨n, H⟩ := loopC H
   exact (L n).1 0 H
  ·replace H := iF c8 H
   rw [neT c8]
   refine goK hT 5 (K5 11111010 1) ⟨98, [(6, .b false)], [.box 64 (eC64 a2), eR48 v3, eR91 v5, eR57 v6]⟩ ?_
   obtain rfl := retC H
   exact ak_ret hf hX (av := .b false) (by kernel_rfl) [] (sel_of_eq (by kernel_rfl)) (by decide) (by rw [h0]; rfl) (by kernel_rfl) (fun _ h => all_nil h) (.d (.v _))
 ·replace H := iF c2 H
  rw [boF c2]
  refine goK hT 3 (K5 110100 0) ⟨98, [], [.box 64 (eC64 a2)]⟩ ?_
  obtain ⟨v2, h3, H⟩ := ibC H
  refine ak_callP (avs := []) (dst := some 16) (k' := (K5 110100 1)) [16] [] hP enters_7 (splicelaw24_awake.says h3) (by kernel_rfl) (hands_none _) .nil (st' := ⟨98, [(16, .b v2)], [.box 64 (eC64 a2)]⟩) (by kernel_rfl) ?_
  refine goK hT 2 (K5 11010 1) ⟨98, [(6, .b v2)], [.box 64 (eC64 a2)]⟩ ?_
  obtain rfl := retC H
  exact ak_ret hf hX (av := .b v2) (by kernel_rfl) [] (sel_of_eq (by kernel_rfl)) (by decide) (by rw [h0]; rfl) (by kernel_rfl) (fun _ h => all_nil h) (.d (.v _))
end Go.SyP
