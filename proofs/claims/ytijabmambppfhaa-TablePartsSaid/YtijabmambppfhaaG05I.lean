/- Contracts of the library at this seat. -/
import Derived.Test.YtijabmambppfhaaG05D
import Derived.Test.YtijabmambppfhaaSyZ
import Derived.Test.YtijabmambppfhaaSyS
import Derived.Test.YtijabmambppfhaaSyU
import Derived.Shelf.Spec.SlicesInsertGrow
import Derived.Test.YtijabmambppfhaaG05S
set_option linter.unusedVariables false
set_option linter.unusedSimpArgs false
namespace Go.SyP
open Go Go.Sy Go.Proofs Go.Lib Go.RowKit

def TI : Tab where
  info := [(3, 1, 8, [.int .i64 0]), (22, 1, 24, [.slice none 0 0]), (24, 2, 16, [.int .i64 0, .int .i64 0]), (27, 1, 24, [.slice none 0 0]), (47, 2, 16, [.int .i64 0, .int .i64 0])]
  aggs := [(3, false), (22, false), (24, true), (27, false), (47, true)]
  slices := [(22, 47), (27, 24)]
  bools := []
theorem tokI : TabOk Try.prog TI := ⟨by kernel_rfl, by kernel_rfl, by kernel_rfl, by kernel_rfl, by kernel_rfl, by kernel_rfl, by kernel_rfl, by kernel_rfl, by kernel_rfl, by kernel_rfl, by kernel_rfl, by kernel_rfl⟩
theorem enters_125 : Sy.Enters Try.prog 125 := enters_fn Try.func125 (by kernel_rfl) (by kernel_rfl)
theorem enters_126 : Sy.Enters Try.prog 126 := enters_fn Try.func126 (by kernel_rfl) (by kernel_rfl)
theorem enters_127 : Sy.Enters Try.prog 127 := enters_fn Try.func127 (by kernel_rfl) (by kernel_rfl)
theorem enters_134 : Sy.Enters Try.prog 134 := enters_fn Try.func134 (by kernel_rfl) (by kernel_rfl)

theorem clone43 {tg : Bool} (xs : List api_Pair) (hb : xs.length * 16 ≤ 140737488355328) :
    Says Try.prog 43 [] [.d (.sl tg xs.length (vec api_Pair.e api_Pair.z xs))] [.flat false 2 47 xs.length (vec api_Pair.e api_Pair.z xs)] (.own 0 2 0 xs.length) := by
  refine says_of Try.func43 rfl (nt := 8) rfl (Nat.le_of_ble_eq_true rfl) fun X hP h0 hX => ?_
  have hT : TabOk X.P TI := hP ▸ tokI
  have hf : X.P.funcs[43]? = some Try.f43 := hP ▸ Try.func43
  refine go hT 8 [0, 3] (k' := stackAt (Try.f43.body.getD .skip) [1, 0, 0, 1] []) (st' := ⟨8, [(0, .d (.sl tg xs.length (vec api_Pair.e api_Pair.z xs))), (3, .d (.sl tg xs.length (vec api_Pair.e api_Pair.z xs)))], []⟩) (by kernel_rfl) ?_
  refine ak_nilcmp (eq := true) (n := xs.length) (dst := some 4) (k' := stackAt (Try.f43.body.getD .skip) [1, 0, 0, 2] []) hT [0, 4] (st' := fun b => ⟨8, [(0, .d (.sl tg xs.length (vec api_Pair.e api_Pair.z xs))), (4, .d (.v (.bool b)))], []⟩) (by kernel_rfl) (fun b => by kernel_rfl) ?_
  intro b hbn
  cases b with
  | true =>
    have hx : xs = [] := List.length_eq_zero_iff.1 (hbn rfl)
    subst hx
    refine go hT 6 [2] (k' := stackAt (Try.f43.body.getD .skip) [1, 0, 1, 0, 1] []) (st' := ⟨8, [(2, .d (.v (.slice none 0 0)))], []⟩) (by kernel_rfl) ?_
    refine ak_nilS [2] 2 2 47 (vec api_Pair.e api_Pair.z []) (st' := ⟨8, [(2, .own 0 2 0 0)], [.flat false 2 47 0 (vec api_Pair.e api_Pair.z [])]⟩) (by kernel_rfl) (by kernel_rfl) ?_
    exact ak_ret hf hX (av := .own 0 2 0 0) (by kernel_rfl) [0] (sel_of_eq (by kernel_rfl)) (by decide) (by rw [h0]; rfl) (by kernel_rfl) (fun _ h => all_cons (nr_vec api_Pair.nl) (fun _ h => all_nil h) h) (.own _ _ _ _)
  | false =>
    refine go hT 5 [0] (k' := stackAt (Try.f43.body.getD .skip) [1, 1, 0, 0] []) (st' := ⟨8, [(0, .d (.sl tg xs.length (vec api_Pair.e api_Pair.z xs)))], []⟩) (by kernel_rfl) ?_
    refine ak_emptyS (e := 47) (s := 2) (dst := some 5) (k' := stackAt (Try.f43.body.getD .skip) [1, 1, 0, 1] []) hT [0, 5] (vec api_Pair.e api_Pair.z []) (by kernel_rfl) (st' := ⟨8, [(0, .d (.sl tg xs.length (vec api_Pair.e api_Pair.z xs))), (5, .own 0 2 0 0)], [.flat false 2 47 0 (vec api_Pair.e api_Pair.z [])]⟩) (by kernel_rfl) ?_
    refine go hT 1 [5, 6] (k' := stackAt (Try.f43.body.getD .skip) [1, 1, 0, 2] []) (st' := ⟨8, [(5, .own 0 2 0 ([] : List api_Pair).length), (6, .d (.sl tg xs.length (vec api_Pair.e api_Pair.z xs)))], [.flat false 2 47 ([] : List api_Pair).length (vec api_Pair.e api_Pair.z [])]⟩) (by kernel_rfl) ?_
    refine ak_appendL (id := 0) (kk := 2) (by' := 16) (t := 22) (e := 47) (z := [.int .i64 0, .int .i64 0]) (dst := some 7) (k' := stackAt (Try.f43.body.getD .skip) [1, 1, 0, 3] []) (x := .d (.sl tg xs.length (vec api_Pair.e api_Pair.z xs))) hT api_Pair.e api_Pair.z [] xs [7] (by kernel_rfl) (by kernel_rfl) (.sl fun _ _ => rfl) (by kernel_rfl) (by kernel_rfl) (by kernel_rfl) (by kernel_rfl) (by simpa using hb) (by simp; omega) (st' := ⟨8, [(7, .own 1 2 0 ([] ++ xs).length)], [.gone, .flat false 2 47 ([] ++ xs).length (vec api_Pair.e api_Pair.z ([] ++ xs))]⟩) (by kernel_rfl) ?_
    refine go hT 2 [2] (k' := stackAt (Try.f43.body.getD .skip) [1, 1, 1] []) (st' := ⟨8, [(2, .own 1 2 0 xs.length)], [.gone, .flat false 2 47 xs.length (vec api_Pair.e api_Pair.z xs)]⟩) (by kernel_rfl) ?_
    exact ak_ret hf hX (av := .own 1 2 0 xs.length) (by kernel_rfl) [1] (sel_of_eq (by kernel_rfl)) (by decide) (by rw [h0]; rfl) (by kernel_rfl) (fun _ h => all_cons (nr_vec api_Pair.nl) (fun _ h => all_nil h) h) (.own _ _ _ _)

open Go.Sort in
theorem sort73 {g : FuncId} (eg : Sy.Enters Try.prog g) (cf : api_Pair → api_Pair → Int) (hO : SWO (ltOf cf))
    (hs : ∀ x y, Says Try.prog g [] [.d (.agg (api_Pair.e x)), .d (.agg (api_Pair.e y))] [] (.d (.v (.int .i64 (cf x y))))) (xs : List api_Pair) (hb : xs.length * 16 ≤ 140737488355328) :
    Says Try.prog 73 [.flat false 2 47 xs.length (vec api_Pair.e api_Pair.z xs)] [.own 0 2 0 xs.length, .d (.fn g [])] [.flat false 2 47 xs.length (vec api_Pair.e api_Pair.z (sortL api_Pair.z cf xs))] (.tup []) :=
  sort_saysN Try.sort73Iv api_Pair.z 2 Try.isAgg47 Try.sizeOf47 (fun x : api_Pair => [.int .i64 x.Key, .int .i64 x.Val]) (fun _ => rfl) (fun x v hv => by
    simp only [List.mem_cons, List.not_mem_nil, or_false] at hv
    rcases hv with rfl | rfl <;> rfl) api_Pair.e (fun _ => rfl) cf hO g eg (cmp_calls (fun x v hv => by
    simp only [List.mem_cons, List.not_mem_nil, or_false] at hv
    rcases hv with rfl | rfl <;> rfl) (fun _ => rfl) hs) (by omega)



theorem tSI83 : Try.prog.underlying 22 = some (.slice 47) := by kernel_rfl
theorem tII83 : Try.prog.underlying 3 = some (.int .i64) := by kernel_rfl
theorem szI83 : (Try.prog.info? 47).map (·.size) = some 2 := by kernel_rfl

set_option maxHeartbeats 4000000 in
set_option maxRecDepth 100000 in
theorem ins_shift83 (b n c i vb vc : Nat) (A B R V : List Value) (VS : Array Value) (w : World) (hi : i < n) (hroom : n + 1 ≤ c) (hc63 : c ≤ 9223372036854775807) (hvb : vb ≠ b)
    (hb : w.heap[b]? = some (.cells (A ++ B ++ R).toArray 47 (0, 0))) (hv : w.heap[vb]? = some (.cells VS 47 (0, 0))) (hA : A.length = i * 2) (hB : B.length = (n - i) * 2) (hR : 2 ≤ R.length) (hV : V.length = 2)
    (hVS : ∀ (j : Nat) v, V[j]? = some v → VS[j]? = some v) (h1b : ∀ v ∈ B, v.oneCell' = true) (h1v : ∀ v ∈ V, v.oneCell' = true) :
    Calls Try.prog 83 #[.slice (some ⟨b, 0, none⟩) n c, .int .i64 i, .slice (some ⟨vb, 0, none⟩) 1 vc] w fun e w' =>
      e = .returned (.slice (some ⟨b, 0, none⟩) (n + 1) c) ∧ w' = (w.drew.setRow b (A ++ (B ++ R).take 2 ++ B ++ R.drop 2).toArray).setRow b (A ++ V ++ B ++ R.drop 2).toArray := by
  have hz2 : ¬ ((i : Int) = (n : Int)) := by omega
  have hov : ∀ lb cb, (callFunc 109 #[.slice (some ⟨vb, 0, none⟩) 1 vc, .slice (some ⟨b, (i + 1) * 2, none⟩) lb cb]).run Try.prog w = .ok (.value (.bool false)) w := fun lb cb => by
    rw [run_callFunc_extern Try.func109 (by kernel_rfl) (by kernel_rfl) (by kernel_rfl) (e := Extern.SlicesOverlaps.overlaps #[22, 22] #[4]) (by kernel_rfl),
      Lib.run_overlaps_apart w 22 4 47 tSI83 2 (fun w => by kernel_rfl) ⟨vb, 0, none⟩ ⟨b, (i + 1) * 2, none⟩ 1 vc lb cb hvb 47 47 VS.size (A ++ B ++ R).toArray.size (by simp only [World.shape?, hv]) (by simp only [World.shape?, hb]) (by simp only [List.size_toArray, List.length_append]; omega) (by simp only [World.frozen?, hv]; simp) (by simp only [World.frozen?, hv]; simp)]
    rfl
  have hcp1 : ∀ ty dc sc, (Builtin.copy_ #[22, 22] ty #[.slice (some ⟨b, (i + 1) * 2, none⟩) (n - i) dc, .slice (some ⟨b, i * 2, none⟩) (n + 1 - i) sc]).run Try.prog w.drew = .ok (goInt (n - i : Nat)) (w.drew.setRow b (A ++ (B ++ R).take 2 ++ B ++ R.drop 2).toArray) := fun ty dc sc => by
    have := copy_in (sT := 22) tSI83 szI83 w.drew b 47 A B R (i * 2) (n - i) hA hB hR hb h1b ty (n - i) dc (n + 1 - i) sc (by show _ = min _ _; omega)
    rwa [show i * 2 + 2 = (i + 1) * 2 by omega] at this
  obtain ⟨W1, hW1⟩ : ∃ W1, W1 = w.drew.setRow b (A ++ (B ++ R).take 2 ++ B ++ R.drop 2).toArray := ⟨_, rfl⟩
  have hb1 : W1.heap[b]? = some (.cells (A ++ (B ++ R).take 2 ++ (B ++ R.drop 2)).toArray 47 (0, 0)) := by
    rw [hW1]
    have := setRow_heap w.drew b _ (A ++ (B ++ R).take 2 ++ B ++ R.drop 2).toArray _ _ hb
    rw [this]
    simp only [List.append_assoc]
  have hv1 : W1.heap[vb]? = some (.cells VS 47 (0, 0)) := by
    rw [hW1, setRow_other _ _ _ _ hvb]
    exact hv
  have hcp2 : ∀ (W : World), W.heap = W1.heap → ∀ ty dc, (Builtin.copy_ #[22, 22] ty #[.slice (some ⟨b, i * 2, none⟩) (n + 1 - i) dc, .slice (some ⟨vb, 0, none⟩) 1 vc]).run Try.prog W = .ok (goInt 1) (W.setRow b (A ++ V ++ B ++ R.drop 2).toArray) := fun W hW ty dc => by
    have := copy_from (sT := 22) tSI83 szI83 W b vb 47 47 A ((B ++ R).take 2) (B ++ R.drop 2) VS V (i * 2) 0 1 hA (by simp; omega) (by omega) (by rw [hW]; exact hb1) (by rw [hW]; exact hv1) (fun j v hj => by rw [Nat.zero_add]; exact hVS j v hj) h1v ty (n + 1 - i) dc 1 vc (by show _ = min _ _; omega)
    rw [this]
    simp only [List.append_assoc, goInt]
    rfl
  rw [← hW1] at hcp1
  have hg1 : goInt (1 : Nat) = .int .i64 1 := rfl
  have hw1 : IntKind.i64.wrap ((i : Int) + 1) = (i : Int) + 1 := by rw [IntKind.wrap_i64]; omega
  have hbz : (0 : Int) ≤ (i : Int) + 1 := by omega
  have mixed : Try.prog.follows Departure.mixedOrders = true := by kernel_rfl
  have hbn : (i : Int) ≤ (n : Int) + 1 := by omega
  have hin : i ≤ n := by omega
  have hb2 : ¬ (c = i + 1) := by omega
  have hb4 : ¬ (c = i) := by omega
  rw [← hW1]
  go_enter Try.func83, Try.ntmps83
  go_wp2_with (simp only [hov])
  go_region_law_o (refine step_copy_runI rfl _ _ 22 22 rfl _ _ (by simp [Act.eval, Act.put]) (by simp [Act.eval, Act.put]) (hcp1 _ _ _) ?_)
  go_wp2_with (at_builtin; refine wpList_copy_runI _ rfl _ _ 22 22 rfl _ _ rfl rfl (hcp2 _ (by first | rfl | (rw [hW1]; rfl)) _ _) ?_)
  go_ret
  exact ⟨rfl, by rw [hW1]; simp only [List.append_assoc]⟩

set_option maxHeartbeats 4000000 in
set_option maxRecDepth 100000 in
theorem ins_end83 (base : Option Addr) (n c vb vc : Nat) (w w' : World) (v' : Value) (hnc : n ≤ c) (hc63 : c ≤ 9223372036854775807) (hnil : base = none → n = 0 ∧ c = 0)
    (hr : (Builtin.append_ #[22, 22] 22 #[.slice base n c, .slice (some ⟨vb, 0, none⟩) 1 vc]).run Try.prog w = .ok v' w') :
    Calls Try.prog 83 #[.slice base n c, .int .i64 n, .slice (some ⟨vb, 0, none⟩) 1 vc] w fun e w2 => e = .returned v' ∧ w2 = w' := by
  cases base with
  | none =>
    obtain ⟨rfl, rfl⟩ := hnil rfl
    go_enter Try.func83, Try.ntmps83
    go_wp2_with (at_builtin; refine Lib.wpList_append_run _ rfl _ _ _ _ rfl _ _ rfl rfl _ _ hr ?_)
    all_goals (go_ret; exact ⟨rfl, rfl⟩)
  | some a =>
    go_enter Try.func83, Try.ntmps83
    go_wp2_with (at_builtin; refine Lib.wpList_append_run _ rfl _ _ _ _ rfl _ _ rfl rfl _ _ hr ?_)
    all_goals (go_ret; exact ⟨rfl, rfl⟩)

set_option maxHeartbeats 4000000 in
set_option maxRecDepth 100000 in
theorem ins_grow83 (b n c i vb vc : Nat) (A B R V : List Value) (VS : Array Value) (w : World) (hi : i < n) (hnc : n ≤ c) (hroom : c < n + 1) (hbig : (n + 1) * 16 ≤ 140737488355328) (hvb : vb ≠ b)
    (hb : w.heap[b]? = some (.cells (A ++ B ++ R).toArray 47 (0, 0))) (hv : w.heap[vb]? = some (.cells VS 47 (0, 0))) (hA : A.length = i * 2) (hB : B.length = (n - i) * 2) (hV : V.length = 2)
    (hVS : ∀ (j : Nat) v, V[j]? = some v → VS[j]? = some v) (h1b : ∀ v ∈ B, v.oneCell' = true) (h1v : ∀ v ∈ V, v.oneCell' = true) :
    Calls Try.prog 83 #[.slice (some ⟨b, 0, none⟩) n c, .int .i64 i, .slice (some ⟨vb, 0, none⟩) 1 vc] w fun e w' =>
      e = .returned (.slice (some ⟨w.heap.size, 0, none⟩) (n + 1) (grownCap w (n + 1) c 47)) ∧ ∃ Z : List Value, Z.length = (grownCap w (n + 1) c 47 - (n + 1)) * 2 ∧ w' = (w.drew.alloc (.cells (A ++ V ++ B ++ Z).toArray 47)).drew := by
  obtain ⟨i0, hi0, hs0, hb0, hz0⟩ := tokI.infoAt (show TI.info.lookup 47 = some (2, 16, [.int .i64 0, .int .i64 0]) from rfl)
  obtain ⟨zv, hzv, hzc⟩ := Option.map_eq_some_iff.1 hz0
  have hzs : zv.cells.size = 2 := by rw [hzc]; rfl
  have mixed : Try.prog.follows Departure.mixedOrders = true := by kernel_rfl
  have hz2 : ¬ ((i : Int) = (n : Int)) := by omega
  have hz3 : (c : Int) < (n : Int) + 1 := by omega
  have hbw : b < w.heap.size := (Array.getElem?_eq_some_iff.1 hb).1
  have hvw : vb < w.heap.size := (Array.getElem?_eq_some_iff.1 hv).1
  have hold : (Builtin.firstCells i0.size i (.slice (some ⟨b, 0, none⟩) i c)).run Try.prog w.drew = .ok A.toArray w.drew := by
    rw [hs0]
    exact run_firstCells_some w.drew 2 i ⟨b, 0, none⟩ i c A hA (fun j v hj => by
      rw [Addr.add_lit, Nat.zero_add]
      have : w.drew.heap[b]? = some (.cells (A ++ B ++ R).toArray 47 (0, 0)) := hb
      simp only [World.cell?, this, List.getElem?_toArray, List.append_assoc]
      rw [List.getElem?_append_left (List.getElem?_eq_some_iff.1 hj).1, hj]
      rfl)
  obtain ⟨G, hG⟩ : ∃ G, G = grownCap w (n + 1) c 47 := ⟨_, rfl⟩
  have hGn : n + 1 ≤ G := by rw [hG]; exact grownCap_ge w _ _ _
  have hG63 : G ≤ 9223372036854775807 := by
    have := grownCap_le_maxLen w (n + 1) c 47 (by unfold maxLen; omega)
    rw [← hG] at this
    unfold maxLen at this
    omega
  obtain ⟨ZZ, hZl, hZZ⟩ : ∃ ZZ : List Value, ZZ.length = (G - i) * 2 ∧ A.toArray ++ Builtin.zeroCells zv.cells (n + 1 - i) ++ Builtin.zeroCells zv.cells (G - (n + 1)) = (A ++ ZZ).toArray := by
    refine ⟨(Builtin.zeroCells zv.cells (n + 1 - i) ++ Builtin.zeroCells zv.cells (G - (n + 1))).toList, ?_, ?_⟩
    · rw [Array.length_toList, Array.size_append, size_zeroCells, size_zeroCells, hzs]
      omega
    · apply Array.ext'
      simp
  have hrz : ∀ ty, (Builtin.append_ #[22, 3] ty #[.slice (some ⟨b, 0, none⟩) i c, .int .i64 ((n : Int) + 1 - (i : Int))]).run Try.prog w =
      .ok (.slice (some ⟨w.heap.size, 0, none⟩) (n + 1) G) (w.drew.alloc (.cells (A ++ ZZ).toArray 47)) := fun ty => by
    have h := Lib.run_append_grow_zeros w 22 3 ty 47 i0 zv .i64 .i64 tSI83 tII83 hi0 hzv (some ⟨b, 0, none⟩) i c A hold (n + 1 - i) (by omega) (by omega) (by omega) (by omega) (by rw [hb0]; omega) (by rw [hb0, show i + (n + 1 - i) = n + 1 by omega]; exact growslice_fits hroom hbig)
    rw [show i + (n + 1 - i) = n + 1 by omega, ← hG, hZZ] at h
    rw [show (n : Int) + 1 - (i : Int) = ((n + 1 - i : Nat) : Int) by omega]
    exact h
  obtain ⟨W1, hW1⟩ : ∃ W1, W1 = w.drew.alloc (.cells (A ++ ZZ).toArray 47) := ⟨_, rfl⟩
  have hN1 : W1.heap[w.heap.size]? = some (.cells (A ++ ZZ.take 2 ++ ZZ.drop 2).toArray 47 (0, 0)) := by
    rw [hW1, List.append_assoc, List.take_append_drop]
    exact heap_alloc_new w.drew _
  have hb1 : W1.heap[b]? = some (.cells (A ++ B ++ R).toArray 47 (0, 0)) := by
    rw [hW1]
    exact (Array.getElem?_push_lt hbw).trans ((Array.getElem?_eq_getElem hbw).symm.trans hb)
  have hv1 : W1.heap[vb]? = some (.cells VS 47 (0, 0)) := by
    rw [hW1]
    exact (Array.getElem?_push_lt hvw).trans ((Array.getElem?_eq_getElem hvw).symm.trans hv)
  have hset : ∀ (cs : Array Value), W1.setRow w.heap.size cs = w.drew.alloc (.cells cs 47) := fun cs => by
    rw [hW1]
    exact setRow_alloc w.drew _ _ _ _ rfl
  have hcpA : ∀ ty dc, (Builtin.copy_ #[22, 22] ty #[.slice (some ⟨w.heap.size, i * 2, none⟩) (n + 1 - i) dc, .slice (some ⟨vb, 0, none⟩) 1 vc]).run Try.prog W1 = .ok (goInt 1) (w.drew.alloc (.cells (A ++ V ++ ZZ.drop 2).toArray 47)) := fun ty dc => by
    have := copy_from (sT := 22) tSI83 szI83 W1 w.heap.size vb 47 47 A (ZZ.take 2) (ZZ.drop 2) VS V (i * 2) 0 1 hA (by simp; omega) (by omega) hN1 hv1 (fun j v hj => by rw [Nat.zero_add]; exact hVS j v hj) h1v ty (n + 1 - i) dc 1 vc (by show _ = min _ _; omega)
    rw [this, hset]
    rfl
  obtain ⟨W2, hW2⟩ : ∃ W2, W2 = w.drew.alloc (.cells (A ++ V ++ ZZ.drop 2).toArray 47) := ⟨_, rfl⟩
  have hN2 : W2.drew.heap[w.heap.size]? = some (.cells ((A ++ V) ++ (ZZ.drop 2).take B.length ++ (ZZ.drop 2).drop B.length).toArray 47 (0, 0)) := by
    rw [hW2, List.append_assoc (A ++ V), List.take_append_drop]
    exact heap_alloc_new w.drew _
  have hb2' : W2.drew.heap[b]? = some (.cells (A ++ B ++ R).toArray 47 (0, 0)) := by
    rw [hW2]
    exact (Array.getElem?_push_lt hbw).trans ((Array.getElem?_eq_getElem hbw).symm.trans hb)
  have hset2 : ∀ (cs : Array Value), W2.drew.setRow w.heap.size cs = (w.drew.alloc (.cells cs 47)).drew := fun cs => by
    rw [hW2]
    exact congrArg World.drew (setRow_alloc w.drew _ _ _ _ rfl)
  have hcpB : ∀ ty dc sc, (Builtin.copy_ #[22, 22] ty #[.slice (some ⟨w.heap.size, (i + 1) * 2, none⟩) (n - i) dc, .slice (some ⟨b, i * 2, none⟩) (n - i) sc]).run Try.prog W2.drew = .ok (goInt (n - i : Nat)) (w.drew.alloc (.cells (A ++ V ++ B ++ (ZZ.drop 2).drop B.length).toArray 47)).drew := fun ty dc sc => by
    have := copy_from (sT := 22) tSI83 szI83 W2.drew w.heap.size b 47 47 (A ++ V) ((ZZ.drop 2).take B.length) ((ZZ.drop 2).drop B.length) (A ++ B ++ R).toArray B ((i + 1) * 2) (i * 2) (n - i) (by rw [List.length_append]; omega) (by simp; omega) hB hN2 hb2' (fun j v hj => by
      simp only [List.getElem?_toArray]
      rw [← hA, List.append_assoc, List.getElem?_append_right (by omega), Nat.add_sub_cancel_left, List.getElem?_append_left (List.getElem?_eq_some_iff.1 hj).1, hj]) h1b ty (n - i) dc (n - i) sc (by show _ = min _ _; omega)
    rw [this, hset2]
  rw [← hW1] at hrz
  rw [← hW2] at hcpA
  have hw1 : IntKind.i64.wrap ((i : Int) + 1) = (i : Int) + 1 := by rw [IntKind.wrap_i64]; omega
  have hbz : (0 : Int) ≤ (i : Int) + 1 := by omega
  have hin : i ≤ n := by omega
  have hbn : (i : Int) ≤ (n : Int) + 1 := by omega
  have hGi : ¬ (G = i) := by omega
  have hGi1 : ¬ (G = i + 1) := by omega
  have hci : ¬ (c = i) := by omega
  refine Calls.mono (R := fun e w' => e = .returned (.slice (some ⟨w.heap.size, 0, none⟩) (n + 1) G) ∧ w' = (w.drew.alloc (.cells (A ++ V ++ B ++ (ZZ.drop 2).drop B.length).toArray 47)).drew) ?_ ?_
  · clear hW1 hW2 hN1 hN2 hb1 hv1 hset hset2 hb2' hZZ hold hG
    go_enter Try.func83, Try.ntmps83
    go_wp2_with (first
      | (at_builtin; refine Lib.wpList_append_run _ rfl _ _ _ _ rfl _ _ rfl rfl _ _ (hrz _) ?_)
      | (at_builtin; refine wpList_copy_runI _ rfl _ _ 22 22 rfl _ _ rfl rfl (hcpA _ _) ?_))
    go_region_law_o (refine step_copy_runI rfl _ _ 22 22 rfl _ _ (by simp [Act.eval, Act.put]) (by simp [Act.eval, Act.put]) (hcpB _ _ _) ?_)
    go_wp2
    go_ret
    exact ⟨rfl, by simp only [List.append_assoc, List.drop_drop, hB]; rfl⟩
  · rintro e w' ⟨rfl, rfl⟩
    refine ⟨by rw [hG], _, ?_, rfl⟩
    rw [← hG, List.length_drop, List.length_drop, hZl, hB]
    omega
theorem insert83 (xs : List api_Pair) (i : Int) (x : api_Pair) (h : (0 ≤ i ∧ i ≤ (xs.length : Int)) ∧ (xs.length + 1) * 16 ≤ 140737488355328) :
    Says Try.prog 83 [.flat false 2 47 xs.length (vec api_Pair.e api_Pair.z xs), .flat false 2 47 1 (fun j => [api_Pair.e x].getD j [])] [.own 0 2 0 xs.length, .d (.v (.int .i64 i)), .own 1 2 0 1]
      [.gone, .gone, .flat false 2 47 (xs.take i.toNat ++ x :: xs.drop i.toNat).length (vec api_Pair.e api_Pair.z (xs.take i.toNat ++ x :: xs.drop i.toNat))] (.own 2 2 0 (xs.take i.toNat ++ x :: xs.drop i.toNat).length) :=
  insert_says tokI (t := 22) api_Pair.z 2 16 (by decide) rfl rfl rfl (fun x : api_Pair => [.int .i64 x.Key, .int .i64 x.Val]) (fun _ => rfl) (fun x v h => by simp at h; rcases h with rfl | rfl <;> rfl) api_Pair.e (fun _ => rfl) ins_end83
    (fun b n c i vb vc A B R V VS w h1 h2 h3 h4 h5 h6 h7 h8 h9 h10 h11 h12 h13 => ins_shift83 b n c i vb vc A B R V VS w h1 h2 h3 h4 h5 h6 h7 h8 h9 h10 h11 h12 h13)
    (fun b n c i vb vc A B R V VS w h1 h2 h3 h4 h5 h6 h7 h8 h9 h10 h11 h12 h13 => ins_grow83 b n c i vb vc A B R V VS w h1 h2 h3 h4 h5 h6 h7 h8 h9 h10 h11 h12 h13)
    xs i x h (by have := h.2; omega)

theorem grow98 (n : Int) (h : 0 ≤ n ∧ n * 16 ≤ 140737488355328) : Says Try.prog 98 [] [.d (.v (.slice none 0 0)), .d (.v (.int .i64 n))] [.flat false 2 47 ([] : List api_Pair).length (vec api_Pair.e api_Pair.z [])] (.own 0 2 0 ([] : List api_Pair).length) :=
  grow_says Try.grow98Iv api_Pair.z api_Pair.e 2 Try.t47 _ (by kernel_rfl) rfl (by decide) rfl rfl rfl api_Pair.nl n h.1 h.2 (by omega)

open Go.Sort in
theorem sort126 {g : FuncId} (eg : Sy.Enters Try.prog g) (cf : api_Span → api_Span → Int) (hO : SWO (ltOf cf))
    (hs : ∀ x y, Says Try.prog g [] [.d (.agg (api_Span.e x)), .d (.agg (api_Span.e y))] [] (.d (.v (.int .i64 (cf x y))))) (xs : List api_Span) (hb : xs.length * 16 ≤ 140737488355328) :
    Says Try.prog 126 [.flat false 2 24 xs.length (vec api_Span.e api_Span.z xs)] [.own 0 2 0 xs.length, .d (.fn g [])] [.flat false 2 24 xs.length (vec api_Span.e api_Span.z (sortL api_Span.z cf xs))] (.tup []) :=
  sort_saysN Try.sort126Iv api_Span.z 2 Try.isAgg24 Try.sizeOf24 (fun x : api_Span => [.int .i64 x.Lo, .int .i64 x.Hi]) (fun _ => rfl) (fun x v hv => by
    simp only [List.mem_cons, List.not_mem_nil, or_false] at hv
    rcases hv with rfl | rfl <;> rfl) api_Span.e (fun _ => rfl) cf hO g eg (cmp_calls (fun x v hv => by
    simp only [List.mem_cons, List.not_mem_nil, or_false] at hv
    rcases hv with rfl | rfl <;> rfl) (fun _ => rfl) hs) (by omega)



def rAsg : List Item → Code
  | .code (.rangeFunc _ _ a _) :: _ => a
  | _ => .skip
def rBody : List Item → Code
  | .code (.rangeFunc _ _ _ b) :: _ => b
  | _ => .skip
noncomputable def asg134 : Code := rAsg (stackAt (Try.f134.body.getD .skip) [1, 0, 1, 0] [])
noncomputable def body134 : Code := rBody (stackAt (Try.f134.body.getD .skip) [1, 0, 1, 0] [])

def rTail : List Item → Code
  | _ :: _ :: .code c :: _ => c
  | _ => .skip
noncomputable def tail134 : Code := rTail (stackAt (Try.f134.body.getD .skip) [1, 0, 1, 0] [])


theorem round134 (l : Nat) (xs : List api_Span) (x : api_Span) (hb : (xs.length + 1) * 16 ≤ 140737488355328) :
    RoundSays Try.prog l [.loop l .ready 134 13 [2] [.ptr 1 0 0 0] #[7] asg134 body134, .box 27 [.own 2 2 0 xs.length], .flat false 2 24 xs.length (vec api_Span.e api_Span.z xs)] (.d (.agg (api_Span.e x)))
      [.loop l .ready 134 13 [2] [.ptr 1 0 0 0] #[7] asg134 body134, .box 27 [.own 3 2 0 (xs ++ [x]).length], .gone, .flat false 2 24 (xs ++ [x]).length (vec api_Span.e api_Span.z (xs ++ [x]))] := by
  refine round_says (by decide) fun X hP h0 hX => ?_
  have hT : TabOk X.P TI := hP ▸ tokI
  refine go hT 4 [2, 5] (k' := [.beginRound, .code body134]) (st' := ⟨13, [(2, .ptr 1 0 0 0), (5, .ptr 3 0 0 0)], [.loop l .ready 134 13 [2] [.ptr 1 0 0 0] #[7] asg134 body134, .box 27 [.own 2 2 0 xs.length], .flat false 2 24 xs.length (vec api_Span.e api_Span.z xs), .box 24 [.i x.Lo, .i x.Hi]]⟩) (by kernel_rfl) ?_
  refine ak_begin (st' := ⟨13, [(2, .ptr 1 0 0 0), (5, .ptr 3 0 0 0)], [.loop l .busy 134 13 [2] [.ptr 1 0 0 0] #[7] asg134 body134, .box 27 [.own 2 2 0 xs.length], .flat false 2 24 xs.length (vec api_Span.e api_Span.z xs), .box 24 [.i x.Lo, .i x.Hi]]⟩) 0 hX rfl rfl ?_
  refine go hT 5 [2, 8, 10] (k' := stackAt body134 [0, 3] []) (st' := ⟨13, [(2, .ptr 1 0 0 0), (8, .own 2 2 0 xs.length), (10, .own 4 2 0 1)], [.loop l .busy 134 13 [2] [.ptr 1 0 0 0] #[7] asg134 body134, .box 27 [.own 2 2 0 xs.length], .flat false 2 24 xs.length (vec api_Span.e api_Span.z xs), .box 24 [.i x.Lo, .i x.Hi], .flat false 2 24 1 (fun j => [api_Span.e x].getD j [])]⟩) (by kernel_rfl) ?_
  refine ak_append1 (id := 2) (kk := 2) (by' := 16) (t := 27) (e := 24) (z := [.int .i64 0, .int .i64 0]) (dst := some 11) (id2 := 4) (e2 := 24) (fz := false) (k' := stackAt body134 [0, 4] []) hT api_Span.e api_Span.z xs x [2, 11] (by kernel_rfl) (by kernel_rfl) (by kernel_rfl) (by kernel_rfl) (by kernel_rfl) (by kernel_rfl) (by kernel_rfl) hb (by omega)
    (st' := ⟨13, [(2, .ptr 1 0 0 0), (11, .own 5 2 0 (xs ++ [x]).length)], [.loop l .busy 134 13 [2] [.ptr 1 0 0 0] #[7] asg134 body134, .box 27 [.own 2 2 0 xs.length], .gone, .box 24 [.i x.Lo, .i x.Hi], .flat false 2 24 1 (fun j => [api_Span.e x].getD j []), .flat false 2 24 (xs ++ [x]).length (vec api_Span.e api_Span.z (xs ++ [x]))]⟩) (by kernel_rfl) ?_
  refine go hT 3 [] (k' := []) (st' := ⟨13, [], [.loop l .busy 134 13 [2] [.ptr 1 0 0 0] #[7] asg134 body134, .box 27 [.own 5 2 0 (xs ++ [x]).length], .gone, .box 24 [.i x.Lo, .i x.Hi], .flat false 2 24 1 (fun j => [api_Span.e x].getD j []), .flat false 2 24 (xs ++ [x]).length (vec api_Span.e api_Span.z (xs ++ [x]))]⟩) (by kernel_rfl) ?_
  refine ak_cut [] [0, 1, 2, 5] (st' := ⟨13, [], [.loop l .busy 134 13 [2] [.ptr 1 0 0 0] #[7] asg134 body134, .box 27 [.own 3 2 0 (xs ++ [x]).length], .gone, .flat false 2 24 (xs ++ [x]).length (vec api_Span.e api_Span.z (xs ++ [x]))]⟩) (by kernel_rfl) (by kernel_rfl) rfl (by decide) (by rw [h0]; rfl) ?_
  exact ak_roundEnd 0 rfl rfl (fun _ h => all_cons (.loop (.cons (.ptr _ _ _ _) .nil)) (fun _ h => all_cons (.box (.cons (.own _ _ _ _) .nil)) (fun _ h => all_cons .gone (fun _ h => all_cons (nr_vec api_Span.nl) (fun _ h => all_nil h) h) h) h) h)
theorem values127 {tg : Bool} (l : Nat) (xs : List api_Span) (hb : xs.length * 16 ≤ 140737488355328) :
    Says Try.prog 127 [.loop l .ready 134 13 [2] [.ptr 1 0 0 0] #[7] asg134 body134, .box 27 [.own 2 2 0 0], .flat false 2 24 0 (vec api_Span.e api_Span.z [])] [.d (.v (.func (.yield l) #[] #[])), .d (.rop false 1 (fun _ => [.sl tg xs.length (vec api_Span.e api_Span.z  xs)]) 0 0)]
      [.loop l .ready 134 13 [2] [.ptr 1 0 0 0] #[7] asg134 body134, .box 27 [.own 3 2 0 xs.length], .gone, .flat false 2 24 xs.length (vec api_Span.e api_Span.z xs)] (.tup []) := by
  refine says_of Try.func127 rfl (nt := 16) rfl (Nat.le_of_ble_eq_true rfl) fun X hP h0 hX => ?_
  have hT : TabOk X.P TI := hP ▸ tokI
  have hf : X.P.funcs[127]? = some Try.f127 := hP ▸ Try.func127
  refine go hT 8 [0, 5, 6, 7] (k' := stackAt (Try.f127.body.getD .skip) [1, 0, 0] []) (st' := ⟨16, [(0, .d (.v (.func (.yield l) #[] #[]))), (5, .d (.sl tg xs.length (vec api_Span.e api_Span.z xs))), (6, .d (.v (.int .i64 (xs.length : Int)))), (7, .d (.v (.int .i64 0)))], [.loop l .ready 134 13 [2] [.ptr 1 0 0 0] #[7] asg134 body134, .box 27 [.own 2 2 0 0], .flat false 2 24 0 (vec api_Span.e api_Span.z [])]⟩) (by kernel_rfl) ?_
  refine ak_dup 2 (r := .flat false 2 24 0 (vec api_Span.e api_Span.z [])) rfl rfl (st' := ⟨16, [(0, .d (.v (.func (.yield l) #[] #[]))), (5, .d (.sl tg xs.length (vec api_Span.e api_Span.z xs))), (6, .d (.v (.int .i64 (xs.length : Int)))), (7, .d (.v (.int .i64 0)))], [.loop l .ready 134 13 [2] [.ptr 1 0 0 0] #[7] asg134 body134, .box 27 [.own 3 2 0 0], .gone, .flat false 2 24 0 (vec api_Span.e api_Span.z [])]⟩) (by kernel_rfl) (by kernel_rfl) rfl ?_
  have L : ∀ m i : Nat, i + m = xs.length → AK X 127 (stackAt (Try.f127.body.getD .skip) [1, 0, 0] []) (Back X [.loop l .ready 134 13 [2] [.ptr 1 0 0 0] #[7] asg134 body134, .box 27 [.own 3 2 0 xs.length], .gone, .flat false 2 24 xs.length (vec api_Span.e api_Span.z xs)] (.tup [])) ⟨16, [(0, .d (.v (.func (.yield l) #[] #[]))), (5, .d (.sl tg xs.length (vec api_Span.e api_Span.z xs))), (6, .d (.v (.int .i64 (xs.length : Int)))), (7, .d (.v (.int .i64 (i : Int))))], [.loop l .ready 134 13 [2] [.ptr 1 0 0 0] #[7] asg134 body134, .box 27 [.own 3 2 0 (xs.take i).length], .gone, .flat false 2 24 (xs.take i).length (vec api_Span.e api_Span.z (xs.take i))]⟩ := by
    intro m
    induction m with
    | zero =>
      intro i hi
      refine go hT 5 [0, 5, 6, 7, 8] (k' := stackAt (Try.f127.body.getD .skip) [1, 0, 0, 1, 0] []) (st' := ⟨16, [(0, .d (.v (.func (.yield l) #[] #[]))), (5, .d (.sl tg xs.length (vec api_Span.e api_Span.z xs))), (6, .d (.v (.int .i64 (xs.length : Int)))), (7, .d (.v (.int .i64 (i : Int)))), (8, .d (.v (.bool (decide ((i : Int) < (xs.length : Int))))))], [.loop l .ready 134 13 [2] [.ptr 1 0 0 0] #[7] asg134 body134, .box 27 [.own 3 2 0 (xs.take i).length], .gone, .flat false 2 24 (xs.take i).length (vec api_Span.e api_Span.z (xs.take i))]⟩) (by kernel_rfl) ?_
      rw [decide_eq_false (show ¬ (i : Int) < (xs.length : Int) by omega)]
      have hx : xs.take i = xs := List.take_of_length_le (by omega)
      rw [hx]
      refine go hT 2 [] (k' := []) (st' := ⟨16, [], [.loop l .ready 134 13 [2] [.ptr 1 0 0 0] #[7] asg134 body134, .box 27 [.own 3 2 0 xs.length], .gone, .flat false 2 24 xs.length (vec api_Span.e api_Span.z xs)]⟩) (by kernel_rfl) ?_
      exact ak_end hf hX (av := .tup []) (by kernel_rfl) [0, 1, 2, 3] (sel_of_eq (by kernel_rfl)) (by decide) (by rw [h0]; rfl) (by kernel_rfl)
        (fun _ h => all_cons (.loop (.cons (.ptr _ _ _ _) .nil)) (fun _ h => all_cons (.box (.cons (.own _ _ _ _) .nil)) (fun _ h => all_cons .gone (fun _ h => all_cons (nr_vec api_Span.nl) (fun _ h => all_nil h) h) h) h) h) (.tup .nil)
    | succ m ih =>
      intro i hi
      have hlen : (xs.take i).length = i := by rw [List.length_take]; omega
      refine go hT 5 [0, 5, 6, 7, 8] (k' := stackAt (Try.f127.body.getD .skip) [1, 0, 0, 1, 0] []) (st' := ⟨16, [(0, .d (.v (.func (.yield l) #[] #[]))), (5, .d (.sl tg xs.length (vec api_Span.e api_Span.z xs))), (6, .d (.v (.int .i64 (xs.length : Int)))), (7, .d (.v (.int .i64 (i : Int)))), (8, .d (.v (.bool (decide ((i : Int) < (xs.length : Int))))))], [.loop l .ready 134 13 [2] [.ptr 1 0 0 0] #[7] asg134 body134, .box 27 [.own 3 2 0 (xs.take i).length], .gone, .flat false 2 24 (xs.take i).length (vec api_Span.e api_Span.z (xs.take i))]⟩) (by kernel_rfl) ?_
      rw [decide_eq_true (show (i : Int) < (xs.length : Int) by omega)]
      refine go hT 6 [0, 5, 6, 7] (k' := stackAt (Try.f127.body.getD .skip) [1, 0, 0, 1, 1, 0, 0, 0, 0] []) (st' := ⟨16, [(0, .d (.v (.func (.yield l) #[] #[]))), (5, .d (.sl tg xs.length (vec api_Span.e api_Span.z xs))), (6, .d (.v (.int .i64 (xs.length : Int)))), (7, .d (.v (.int .i64 (i : Int))))], [.loop l .ready 134 13 [2] [.ptr 1 0 0 0] #[7] asg134 body134, .box 27 [.own 3 2 0 (xs.take i).length], .gone, .flat false 2 24 (xs.take i).length (vec api_Span.e api_Span.z (xs.take i))]⟩) (by kernel_rfl) ?_
      refine ak_idx hT [0, 5, 6, 7, 9] (i := (i : Int)) (n := (xs.length : Int)) (by omega) (by omega) (k' := stackAt (Try.f127.body.getD .skip) [1, 0, 0, 1, 1, 0, 0, 0, 1] []) (st' := ⟨16, [(0, .d (.v (.func (.yield l) #[] #[]))), (5, .d (.sl tg xs.length (vec api_Span.e api_Span.z xs))), (6, .d (.v (.int .i64 (xs.length : Int)))), (7, .d (.v (.int .i64 (i : Int)))), (9, .d (.rop tg xs.length (vec api_Span.e api_Span.z  xs) (i : Int).toNat 0))], [.loop l .ready 134 13 [2] [.ptr 1 0 0 0] #[7] asg134 body134, .box 27 [.own 3 2 0 (xs.take i).length], .gone, .flat false 2 24 (xs.take i).length (vec api_Span.e api_Span.z (xs.take i))]⟩) (by kernel_rfl) ?_
      refine go hT 8 [0, 5, 6, 7, 11, 12] (k' := stackAt (Try.f127.body.getD .skip) [1, 0, 0, 1, 1, 0, 0, 1, 0, 2] []) (st' := ⟨16, [(0, .d (.v (.func (.yield l) #[] #[]))), (5, .d (.sl tg xs.length (vec api_Span.e api_Span.z xs))), (6, .d (.v (.int .i64 (xs.length : Int)))), (7, .d (.v (.int .i64 (i : Int)))), (11, .d (.v (.func (.yield l) #[] #[]))), (12, .d (.agg (api_Span.e (xs.getD (i : Int).toNat api_Span.z))))], [.loop l .ready 134 13 [2] [.ptr 1 0 0 0] #[7] asg134 body134, .box 27 [.own 3 2 0 (xs.take i).length], .gone, .flat false 2 24 (xs.take i).length (vec api_Span.e api_Span.z (xs.take i)), .box 24 [.i ((xs.getD (i : Int).toNat api_Span.z).Lo), .i ((xs.getD (i : Int).toNat api_Span.z).Hi)]]⟩) (by kernel_rfl) ?_
      refine ak_yield (av := .d (.agg (api_Span.e (xs.getD (i : Int).toNat api_Span.z)))) (dst := some 13) (k' := stackAt (Try.f127.body.getD .skip) [1, 0, 0, 1, 1, 0, 0, 1, 0, 3] []) [0, 5, 6, 7, 13] [0, 1, 3] hP (round134 l (xs.take i) (xs.getD (i : Int).toNat api_Span.z) (by rw [hlen]; omega)) (by kernel_rfl) (hands_three rfl rfl rfl (by decide)) (.cons (pass_d _) .nil)
        (st' := ⟨16, [(0, .d (.v (.func (.yield l) #[] #[]))), (5, .d (.sl tg xs.length (vec api_Span.e api_Span.z xs))), (6, .d (.v (.int .i64 (xs.length : Int)))), (7, .d (.v (.int .i64 (i : Int)))), (13, .d (.v (.bool true)))], [.loop l .ready 134 13 [2] [.ptr 1 0 0 0] #[7] asg134 body134, .box 27 [.own 5 2 0 (xs.take i ++ [(xs.getD (i : Int).toNat api_Span.z)]).length], .gone, .gone, .box 24 [.i ((xs.getD (i : Int).toNat api_Span.z).Lo), .i ((xs.getD (i : Int).toNat api_Span.z).Hi)], .flat false 2 24 (xs.take i ++ [(xs.getD (i : Int).toNat api_Span.z)]).length (vec api_Span.e api_Span.z (xs.take i ++ [(xs.getD (i : Int).toNat api_Span.z)]))]⟩) (by kernel_rfl) ?_
      refine go hT 10 [0, 5, 6, 7] (k' := stackAt (Try.f127.body.getD .skip) [1, 0, 0] []) (st' := ⟨16, [(0, .d (.v (.func (.yield l) #[] #[]))), (5, .d (.sl tg xs.length (vec api_Span.e api_Span.z xs))), (6, .d (.v (.int .i64 (xs.length : Int)))), (7, .d (.v (.int .i64 (IntKind.wrap .i64 ((i : Int) + 1)))))], [.loop l .ready 134 13 [2] [.ptr 1 0 0 0] #[7] asg134 body134, .box 27 [.own 5 2 0 (xs.take i ++ [(xs.getD (i : Int).toNat api_Span.z)]).length], .gone, .gone, .box 24 [.i ((xs.getD (i : Int).toNat api_Span.z).Lo), .i ((xs.getD (i : Int).toNat api_Span.z).Hi)], .flat false 2 24 (xs.take i ++ [(xs.getD (i : Int).toNat api_Span.z)]).length (vec api_Span.e api_Span.z (xs.take i ++ [(xs.getD (i : Int).toNat api_Span.z)]))]⟩) (by kernel_rfl) ?_
      have hw : IntKind.wrap .i64 ((i : Int) + 1) = ((i + 1 : Nat) : Int) := by simp [IntKind.wrap, IntKind.bits, IntKind.signed]; omega
      have ht : xs.take i ++ [(xs.getD (i : Int).toNat api_Span.z)] = xs.take (i + 1) := by
        rw [List.take_add_one]
        simp [show i < xs.length by omega]
      rw [hw, ht]
      refine ak_cut [0, 5, 6, 7] [0, 1, 2, 5] (st' := ⟨16, [(0, .d (.v (.func (.yield l) #[] #[]))), (5, .d (.sl tg xs.length (vec api_Span.e api_Span.z xs))), (6, .d (.v (.int .i64 (xs.length : Int)))), (7, .d (.v (.int .i64 ((i + 1 : Nat) : Int))))], [.loop l .ready 134 13 [2] [.ptr 1 0 0 0] #[7] asg134 body134, .box 27 [.own 3 2 0 (xs.take (i + 1)).length], .gone, .flat false 2 24 (xs.take (i + 1)).length (vec api_Span.e api_Span.z (xs.take (i + 1)))]⟩) (by kernel_rfl) (by kernel_rfl) rfl (by decide) (by rw [h0]; rfl) ?_
      exact ih (i + 1) (by omega)
  exact L xs.length 0 (by omega)
theorem appendSeq134 {tg : Bool} (xs : List api_Span) (hb : xs.length * 16 ≤ 140737488355328) :
    Says Try.prog 134 [] [.d (.v (.slice none 0 0)), .d (.fn 127 [.rop false 1 (fun _ => [.sl tg xs.length (vec api_Span.e api_Span.z xs)]) 0 0])] [.flat false 2 24 xs.length (vec api_Span.e api_Span.z  xs)] (.own 0 2 0 xs.length) := by
  refine says_of Try.func134 rfl (nt := 13) rfl (Nat.le_of_ble_eq_true rfl) fun X hP h0 hX => ?_
  have hT : TabOk X.P TI := hP ▸ tokI
  have hf : X.P.funcs[134]? = some Try.f134 := hP ▸ Try.func134
  refine ak_nilS [0, 1] 0 2 24 (vec api_Span.e api_Span.z []) (st' := ⟨13, [(0, .own 0 2 0 0), (1, .d (.fn 127 [.rop false 1 (fun _ => [.sl tg xs.length (vec api_Span.e api_Span.z xs)]) 0 0]))], [.flat false 2 24 0 (vec api_Span.e api_Span.z [])]⟩) (by kernel_rfl) (by kernel_rfl) ?_
  refine go hT 11 [2, 6] (k' := stackAt (Try.f134.body.getD .skip) [1, 0, 1, 0] []) (st' := ⟨13, [(2, .ptr 1 0 0 0), (6, .d (.fn 127 [.rop false 1 (fun _ => [.sl tg xs.length (vec api_Span.e api_Span.z xs)]) 0 0]))], [.flat false 2 24 0 (vec api_Span.e api_Span.z []), .box 27 [.own 0 2 0 0]]⟩) (by kernel_rfl) ?_
  refine ak_cut [2, 6] [1, 0] (st' := ⟨13, [(2, .ptr 0 0 0 0), (6, .d (.fn 127 [.rop false 1 (fun _ => [.sl tg xs.length (vec api_Span.e api_Span.z xs)]) 0 0]))], [.box 27 [.own 1 2 0 0], .flat false 2 24 0 (vec api_Span.e api_Span.z [])]⟩) (by kernel_rfl) (by kernel_rfl) rfl (by decide) (by rw [h0]; rfl) ?_
  refine ak_rangeFunc (P := Try.prog) (f := 134) (g := 127) (fop := .tmp 6) (p := 7) (asg := asg134) (body := body134) (k := [.inBlock 0, .code (tail134)]) (caps := [.rop false 1 (fun _ => [.sl tg xs.length (vec api_Span.e api_Span.z xs)]) 0 0]) (ret := .tup []) [2] [.ptr 0 0 0 0] [.ptr 0 0 0 0] [3, 0, 1]
    (fun l => [.loop l .ready 134 13 [2] [.ptr 1 0 0 0] #[7] asg134 body134, .box 27 [.own 2 2 0 0], .flat false 2 24 0 (vec api_Span.e api_Span.z [])]) (fun l => [.loop l .ready 134 13 [2] [.ptr 1 0 0 0] #[7] asg134 body134, .box 27 [.own 3 2 0 xs.length], .gone, .flat false 2 24 xs.length (vec api_Span.e api_Span.z  xs)]) (fun l => [.d (.v (.func (.yield l) #[] #[])), .d (.rop false 1 (fun _ => [.sl tg xs.length (vec api_Span.e api_Span.z xs)]) 0 0)])
    hP hX (by kernel_rfl) enters_127 (by kernel_rfl) (fun l => values127 l xs hb) (fun D => hands_three rfl rfl rfl (by decide)) (fun D => .cons (pass_d _) (.cons (pass_d _) .nil)) (fun D => by kernel_rfl) fun D => ?_
  have hT2 : TabOk (X.mark D).P TI := hT
  refine go hT2 6 [4] (k' := [.code .ret]) (st' := ⟨13, [(4, .own 4 2 0 xs.length)], [.box 27 [.own 4 2 0 xs.length], .gone, .dfr D, .gone, .flat false 2 24 xs.length (vec api_Span.e api_Span.z  xs)]⟩) (by kernel_rfl) ?_
  have fin := ak_retD (X := X.mark D) (f := 134) (k := []) (ret := .own 0 2 0 xs.length) (rowsOut := [.flat false 2 24 xs.length (vec api_Span.e api_Span.z xs)]) (st := ⟨13, [(4, .own 4 2 0 xs.length)], [.box 27 [.own 4 2 0 xs.length], .gone, .dfr D, .gone, .flat false 2 24 xs.length (vec api_Span.e api_Span.z xs)]⟩) 2 hf ⟨rfl, rfl⟩ (by kernel_rfl) (av := .own 4 2 0 xs.length) (by kernel_rfl) [4] (by decide) (sel_of_eq (by kernel_rfl)) (by decide) (by have h1 : (X.mark D).μ0.length = 0 := h0; rw [h1]; rfl) (by kernel_rfl) (fun _ h => all_cons (nr_vec api_Span.nl) (fun _ h => all_nil h) h) (.own _ _ _ _)
  rw [mark_plain D hX] at fin
  exact fin
theorem collect125 {tg : Bool} (xs : List api_Span) (hb : xs.length * 16 ≤ 140737488355328) :
    Says Try.prog 125 [] [.d (.fn 127 [.rop false 1 (fun _ => [.sl tg xs.length (vec api_Span.e api_Span.z xs)]) 0 0])] [.flat false 2 24 xs.length (vec api_Span.e api_Span.z  xs)] (.own 0 2 0 xs.length) := by
  refine says_of Try.func125 rfl (nt := 5) rfl (Nat.le_of_ble_eq_true rfl) fun X hP h0 hX => ?_
  have hT : TabOk X.P TI := hP ▸ tokI
  have hf : X.P.funcs[125]? = some Try.f125 := hP ▸ Try.func125
  refine go hT 7 [3] (k' := stackAt (Try.f125.body.getD .skip) [1, 0, 1] []) (st' := ⟨5, [(3, .d (.fn 127 [.rop false 1 (fun _ => [.sl tg xs.length (vec api_Span.e api_Span.z xs)]) 0 0]))], []⟩) (by kernel_rfl) ?_
  refine ak_callP (avs := [.d (.v (.slice none 0 0)), .d (.fn 127 [.rop false 1 (fun _ => [.sl tg xs.length (vec api_Span.e api_Span.z xs)]) 0 0])]) (dst := some 4) (k' := stackAt (Try.f125.body.getD .skip) [1, 0, 2] []) [4] [] hP enters_134 (appendSeq134 (tg := tg) xs hb) (by kernel_rfl) (hands_none _) (.cons (pass_d _) (.cons (pass_d _) .nil))
    (st' := ⟨5, [(4, .own 0 2 0 xs.length)], [.flat false 2 24 xs.length (vec api_Span.e api_Span.z  xs)]⟩) (by kernel_rfl) ?_
  refine go hT 2 [2] (k' := stackAt (Try.f125.body.getD .skip) [1, 1] []) (st' := ⟨5, [(2, .own 0 2 0 xs.length)], [.flat false 2 24 xs.length (vec api_Span.e api_Span.z  xs)]⟩) (by kernel_rfl) ?_
  exact ak_ret hf hX (av := .own 0 2 0 xs.length) (by kernel_rfl) [0] (sel_of_eq (by kernel_rfl)) (by decide) (by rw [h0]; rfl) (by kernel_rfl) (fun _ h => all_cons (nr_vec api_Span.nl) (fun _ h => all_nil h) h) (.own _ _ _ _)

open Go.Sort in
theorem sortedFunc103' {tg : Bool} {g : FuncId} (eg : Sy.Enters Try.prog g) (cf : api_Span → api_Span → Int) (hO : SWO (ltOf cf))
    (hs : ∀ x y, Says Try.prog g [] [.d (.agg (api_Span.e x)), .d (.agg (api_Span.e y))] [] (.d (.v (.int .i64 (cf x y))))) (xs : List api_Span) (hb : xs.length * 16 ≤ 140737488355328) :
    Says Try.prog 103 [] [.d (.fn 127 [.rop false 1 (fun _ => [.sl tg xs.length (vec api_Span.e api_Span.z xs)]) 0 0]), .d (.fn g [])] [.flat false 2 24 xs.length (vec api_Span.e api_Span.z (sortL api_Span.z cf xs))] (.own 0 2 0 xs.length) := by
  refine says_of Try.func103 rfl (nt := 12) rfl (Nat.le_of_ble_eq_true rfl) fun X hP h0 hX => ?_
  have hT : TabOk X.P TI := hP ▸ tokI
  have hf : X.P.funcs[103]? = some Try.f103 := hP ▸ Try.func103
  refine go hT 7 [1, 6] (k' := stackAt (Try.f103.body.getD .skip) [1, 0, 1] []) (st' := ⟨12, [(1, .d (.fn g [])), (6, .d (.fn 127 [.rop false 1 (fun _ => [.sl tg xs.length (vec api_Span.e api_Span.z xs)]) 0 0]))], []⟩) (by kernel_rfl) ?_
  refine ak_callP (avs := [.d (.fn 127 [.rop false 1 (fun _ => [.sl tg xs.length (vec api_Span.e api_Span.z xs)]) 0 0])]) (dst := some 7) (k' := stackAt (Try.f103.body.getD .skip) [1, 0, 2] []) [1, 7] [] hP enters_125 (collect125 (tg := tg) xs hb) (by kernel_rfl) (hands_none _) (.cons (pass_d _) .nil)
    (st' := ⟨12, [(1, .d (.fn g [])), (7, .own 0 2 0 xs.length)], [.flat false 2 24 xs.length (vec api_Span.e api_Span.z xs)]⟩) (by kernel_rfl) ?_
  refine go hT 6 [5, 8, 9] (k' := stackAt (Try.f103.body.getD .skip) [1, 1, 0, 2] []) (st' := ⟨12, [(5, .own 0 2 0 xs.length), (8, .own 0 2 0 xs.length), (9, .d (.fn g []))], [.flat false 2 24 xs.length (vec api_Span.e api_Span.z xs)]⟩) (by kernel_rfl) ?_
  refine ak_callP (avs := [.own 0 2 0 xs.length, .d (.fn g [])]) (dst := some 10) (k' := stackAt (Try.f103.body.getD .skip) [1, 1, 0, 3] []) [5] [0] hP enters_126 (sort126 eg cf hO hs xs hb) (by kernel_rfl) (hands_one rfl rfl) (.cons (.same (.own 0 2 0 xs.length)) (.cons (pass_d _) .nil))
    (st' := ⟨12, [(5, .own 0 2 0 xs.length)], [.flat false 2 24 xs.length (vec api_Span.e api_Span.z (sortL api_Span.z cf xs))]⟩) (by kernel_rfl) ?_
  refine go hT 6 [4] (k' := stackAt (Try.f103.body.getD .skip) [1, 1, 1, 1] []) (st' := ⟨12, [(4, .own 0 2 0 xs.length)], [.flat false 2 24 xs.length (vec api_Span.e api_Span.z (sortL api_Span.z cf xs))]⟩) (by kernel_rfl) ?_
  exact ak_ret hf hX (av := .own 0 2 0 xs.length) (by kernel_rfl) [0] (sel_of_eq (by kernel_rfl)) (by decide) (by rw [h0]; rfl) (by kernel_rfl) (fun _ h => all_cons (nr_vec api_Span.nl) (fun _ h => all_nil h) h) (.own _ _ _ _)

open Go.Sort in
theorem sortedFunc103 {tg : Bool} {g : FuncId} (eg : Sy.Enters Try.prog g) (cf : api_Span → api_Span → Int) (hO : SWO (ltOf cf))
    (hs : ∀ x y, Says Try.prog g [] [.d (.agg (api_Span.e x)), .d (.agg (api_Span.e y))] [] (.d (.v (.int .i64 (cf x y))))) (xs : List api_Span) (hb : xs.length * 16 ≤ 140737488355328) :
    Says Try.prog 103 [] [.d (.fn 127 [.rop false 1 (fun _ => [.sl tg xs.length (vec api_Span.e api_Span.z xs)]) 0 0]), .d (.fn g [])] [.flat false 2 24 (sortL api_Span.z cf xs).length (vec api_Span.e api_Span.z (sortL api_Span.z cf xs))] (.own 0 2 0 (sortL api_Span.z cf xs).length) := by
  have h := sortedFunc103' (tg := tg) eg cf hO hs xs hb
  have : ∀ n, n = xs.length → Says Try.prog 103 [] [.d (.fn 127 [.rop false 1 (fun _ => [.sl tg xs.length (vec api_Span.e api_Span.z xs)]) 0 0]), .d (.fn g [])] [.flat false 2 24 n (vec api_Span.e api_Span.z (sortL api_Span.z cf xs))] (.own 0 2 0 n) := fun n hn => by
    subst hn
    exact h
  exact this _ (sortL_length _ hO xs)

theorem values104 (xs : List api_Span) :
    Says Try.prog 104 [] [.d (.sl true xs.length (vec api_Span.e api_Span.z xs))] [.box 27 [.d (.sl true xs.length (vec api_Span.e api_Span.z xs))]] (.fn 127 [.ptr 0 0 0 0]) := by
  refine says_of Try.func104 rfl (nt := 4) rfl (Nat.le_of_ble_eq_true rfl) fun X hP h0 hX => ?_
  have hT : TabOk X.P TI := hP ▸ tokI
  have hf : X.P.funcs[104]? = some Try.f104 := hP ▸ Try.func104
  refine go hT 10 [2] (k' := stackAt (Try.f104.body.getD .skip) [1, 1] []) (st' := ⟨4, [(2, .fn 127 [.ptr 0 0 0 0])], [.box 27 [.d (.sl true xs.length (vec api_Span.e api_Span.z xs))]]⟩) (by kernel_rfl) ?_
  exact ak_ret hf hX (av := .fn 127 [.ptr 0 0 0 0]) (by kernel_rfl) [0] (sel_of_eq (by kernel_rfl)) (by decide) (by rw [h0]; rfl) (by kernel_rfl) (fun _ h => all_cons (.box (.cons (.d (.sl fun _ _ => api_Span.nl _)) .nil)) (fun _ h => all_nil h) h) (.fn (.cons (.ptr _ _ _ _) .nil))
end Go.SyP
