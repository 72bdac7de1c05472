/- Contracts of the library at this seat. -/
import Derived.Test.YtbhipajnkkjceaaG04D
import Derived.Test.YtbhipajnkkjceaaSyZ
import Derived.Test.YtbhipajnkkjceaaSyS
import Derived.Test.YtbhipajnkkjceaaSyU
import Derived.Shelf.Spec.SlicesInsertGrow
import Derived.Test.YtbhipajnkkjceaaG04S
import Derived.Shelf.Strings.Builder1
import Derived.Test.YtbhipajnkkjceaaSyBd
set_option linter.unusedVariables false
set_option linter.unusedSimpArgs false
namespace Go.SyP
open Go Go.Sy Go.Proofs Go.Lib Go.RowKit

def TI : Tab where
  info := [(3, 1, 8, [.int .i64 0]), (24, 2, 16, [.int .i64 0, .int .i64 0]), (48, 1, 24, [.slice none 0 0])]
  aggs := [(3, false), (24, true), (48, false)]
  slices := [(48, 24)]
  bools := []
theorem tokI : TabOk Try.prog TI := ⟨by kernel_rfl, by kernel_rfl, by kernel_rfl, by kernel_rfl, by kernel_rfl, by kernel_rfl, by kernel_rfl, by kernel_rfl, by kernel_rfl, by kernel_rfl, by kernel_rfl, by kernel_rfl⟩
theorem enters_61 : Sy.Enters Try.prog 61 := enters_fn Try.func61 (by kernel_rfl) (by kernel_rfl)
theorem enters_83 : Sy.Enters Try.prog 83 := enters_fn Try.func83 (by kernel_rfl) (by kernel_rfl)
theorem enters_84 : Sy.Enters Try.prog 84 := enters_fn Try.func84 (by kernel_rfl) (by kernel_rfl)
theorem enters_85 : Sy.Enters Try.prog 85 := enters_fn Try.func85 (by kernel_rfl) (by kernel_rfl)
theorem enters_87 : Sy.Enters Try.prog 87 := enters_fn Try.func87 (by kernel_rfl) (by kernel_rfl)
theorem szB71 : (Try.prog.info? 71).map (·.size) = some 2 := by kernel_rfl
theorem liesB71 : liesAt Try.prog Try.prog.depth 71 (2 / Try.prog.cellsOf 71) 0 71 1 = true := by kernel_rfl

set_option maxHeartbeats 1000000 in
set_option maxRecDepth 100000 in
theorem cc_used61 (b : Nat) (w : World) (h0 : w.cell? ⟨b, 0, none⟩ = some (.pointer (some ⟨b, 0, none⟩))) :
    Calls Try.prog 61 #[.pointer (some ⟨b, 0, none⟩)] w fun e w' => e = .returned (.tuple #[]) ∧ w' = w := by
  obtain ⟨j, hj, _⟩ := Option.map_eq_some_iff.1 szB71
  have mixed : Try.prog.follows Departure.mixedOrders = true := by kernel_rfl
  go_enter Try.func61, Try.ntmps61
  go_wp2
  rw [Lib.run_neq_ptr_same w _ Try.underlying68 hj]
  go_wp2
  go_end0
  exact ⟨rfl, rfl⟩

set_option maxHeartbeats 1000000 in
set_option maxRecDepth 100000 in
theorem cc_fresh61 (b : Nat) (w : World) (h0 : w.cell? ⟨b, 0, none⟩ = some (.pointer none)) (hsh : w.shape? b = some (71, 2)) (hfz : w.frozen? ⟨b, 0, none⟩ = false) :
    Calls Try.prog 61 #[.pointer (some ⟨b, 0, none⟩)] w fun e w' => e = .returned (.tuple #[]) ∧ w' = w.setCell ⟨b, 0, none⟩ (.pointer (some ⟨b, 0, none⟩)) := by
  obtain ⟨j, hj, hjs⟩ := Option.map_eq_some_iff.1 szB71
  have mixed : Try.prog.follows Departure.mixedOrders = true := by kernel_rfl
  go_enter Try.func61, Try.ntmps61
  go_wp2
  rw [Lib.run_to_unsafe w ⟨b, 0, none⟩ Try.underlying68 Try.underlying117 hj (by rw [hjs]; decide) hsh (Nat.zero_lt_succ 1)]
  simp only [Result.andThen]
  rw [Oper.upon_value]
  go_wp2
  rw [run_callFunc_extern Try.func79 (by kernel_rfl) (by kernel_rfl) (by kernel_rfl) (e := Extern.AbiNoEscape.same) (by kernel_rfl)]
  rw [Lib.run_noEscape]
  simp only [Result.andThen]
  rw [Oper.upon_value]
  go_wp2
  rw [Lib.run_from_unsafe w ⟨b, 0, none⟩ Try.underlying117 Try.underlying68 hj hsh liesB71]
  simp only [Result.andThen]
  rw [Oper.upon_value]
  go_wp2
  go_end0
  exact ⟨rfl, rfl⟩

theorem bldCopy61 : BldCopy Try.prog 61 71 := ⟨cc_used61, cc_fresh61⟩
def TB : Tab where
  info := [(5, 1, 1, [.int .u8 0]), (69, 1, 24, [.slice none 0 0]), (71, 2, 32, [.pointer none, .slice none 0 0])]
  aggs := [(5, false), (69, false), (71, true)]
  flds := [((71, 1), (1, 69))]
  slices := [(69, 5)]
  strs := [9]
theorem tokB : TabOk Try.prog TB := ⟨by kernel_rfl, by kernel_rfl, by kernel_rfl, by kernel_rfl, by kernel_rfl, by kernel_rfl, by kernel_rfl, by kernel_rfl, by kernel_rfl, by kernel_rfl, by kernel_rfl, by kernel_rfl⟩
theorem bldWrite35 (a : AV) (ha : a = .np ∨ a = .ptr 0 0 0 0) (s t : ByteArray) (hb : s.size + t.size ≤ 140737488355328) :
    Says Try.prog 35 [.box 71 [a, .own 1 1 0 (bytesL s).length], .flat false 1 5 (bytesL s).length (vec (eI .u8) 0 (bytesL s))] [.ptr 0 0 0 0, .s t] [.box 71 [.ptr 0 0 0 0, .own 2 1 0 (bytesL (s ++ t)).length], .gone, .flat false 1 5 (bytesL (s ++ t)).length (vec (eI .u8) 0 (bytesL (s ++ t)))] (.tup [.i (t.size : Int), .d (.v .nilIface)]) := by
  rcases ha with rfl | rfl
  · refine says_of Try.func35 rfl (nt := 19) rfl (Nat.le_of_ble_eq_true rfl) fun X hP h0 hX => ?_
    have hT : TabOk X.P TB := hP ▸ tokB
    have hf : X.P.funcs[35]? = some Try.f35 := hP ▸ Try.func35
    rw [bytesL_append]
    refine goK hT 8 (stackAt (Try.f35.body.getD .skip) [1, 0, 1] []) ⟨19, [(0, .ptr 0 0 0 0), (1, .s t), (6, .ptr 0 0 0 0)], [.box 71 [.np, .own 1 1 0 (bytesL s).length], .flat false 1 5 (bytesL s).length (vec (eI .u8) 0 (bytesL s))]⟩ ?_
    refine ak_callP (avs := [.ptr 0 0 0 0]) (dst := some 7) (k' := stackAt (Try.f35.body.getD .skip) [1, 0, 2] []) [0, 1] [0, 1] hP enters_61 (cc_says bldCopy61 (.np) (.inl rfl) (bytesL s).length (bytesL s)) (by kernel_rfl) (hands_two rfl rfl rfl rfl (by decide)) (.cons (.same (.ptr 0 0 0 0)) .nil) (st' := ⟨19, [(0, .ptr 0 0 0 0), (1, .s t)], [.box 71 [.ptr 0 0 0 0, .own 1 1 0 (bytesL s).length], .flat false 1 5 (bytesL s).length (vec (eI .u8) 0 (bytesL s))]⟩) (by kernel_rfl) ?_
    refine goK hT 9 (stackAt (Try.f35.body.getD .skip) [1, 1, 0, 6] []) ⟨19, [(1, .s t), (8, .ptr 0 0 0 0), (12, .own 1 1 0 (bytesL s).length), (13, .s t)], [.box 71 [.ptr 0 0 0 0, .own 1 1 0 (bytesL s).length], .flat false 1 5 (bytesL s).length (vec (eI .u8) 0 (bytesL s))]⟩ ?_
    refine ak_appendS (id := 1) (by' := 1) (t := 69) (e := 5) (z := [.int .u8 0]) (dst := some 14) (k' := stackAt (Try.f35.body.getD .skip) [1, 1, 0, 7] []) hT (bytesL s) t [1, 8, 14] (by kernel_rfl) (by kernel_rfl) (by kernel_rfl) (by kernel_rfl) (by kernel_rfl) (by rw [bytesL_length]; omega) (by rw [bytesL_length]; omega) (st' := ⟨19, [(1, .s t), (8, .ptr 0 0 0 0), (14, .own 2 1 0 (bytesL s ++ bytesL t).length)], [.box 71 [.ptr 0 0 0 0, .own 1 1 0 (bytesL s).length], .gone, .flat false 1 5 (bytesL s ++ bytesL t).length (vec (eI .u8) 0 (bytesL s ++ bytesL t))]⟩) (by kernel_rfl) ?_
    refine goK hT 11 (stackAt (Try.f35.body.getD .skip) [1, 1, 1, 1] []) ⟨19, [(4, .i (t.size : Int)), (5, .d (.v .nilIface))], [.box 71 [.ptr 0 0 0 0, .own 2 1 0 (bytesL s ++ bytesL t).length], .gone, .flat false 1 5 (bytesL s ++ bytesL t).length (vec (eI .u8) 0 (bytesL s ++ bytesL t))]⟩ ?_
    exact ak_ret hf hX (av := .tup [.i (t.size : Int), .d (.v .nilIface)]) (by kernel_rfl) [0, 1, 2] (sel_of_eq (by kernel_rfl)) (by decide) (by rw [h0]; rfl) (by kernel_rfl) (fun _ h => all_cons (.box (.cons (.ptr _ _ _ _) (.cons (.own _ _ _ _) .nil))) (fun _ h => all_cons .gone (fun _ h => all_cons (nr_vec (nlI .u8)) (fun _ h => all_nil h) h) h) h) (.tup (.cons (.d (.v _)) (.cons (.d (.v _)) .nil)))
  · refine says_of Try.func35 rfl (nt := 19) rfl (Nat.le_of_ble_eq_true rfl) fun X hP h0 hX => ?_
    have hT : TabOk X.P TB := hP ▸ tokB
    have hf : X.P.funcs[35]? = some Try.f35 := hP ▸ Try.func35
    rw [bytesL_append]
    refine goK hT 8 (stackAt (Try.f35.body.getD .skip) [1, 0, 1] []) ⟨19, [(0, .ptr 0 0 0 0), (1, .s t), (6, .ptr 0 0 0 0)], [.box 71 [.ptr 0 0 0 0, .own 1 1 0 (bytesL s).length], .flat false 1 5 (bytesL s).length (vec (eI .u8) 0 (bytesL s))]⟩ ?_
    refine ak_callP (avs := [.ptr 0 0 0 0]) (dst := some 7) (k' := stackAt (Try.f35.body.getD .skip) [1, 0, 2] []) [0, 1] [0, 1] hP enters_61 (cc_says bldCopy61 (.ptr 0 0 0 0) (.inr rfl) (bytesL s).length (bytesL s)) (by kernel_rfl) (hands_two rfl rfl rfl rfl (by decide)) (.cons (.same (.ptr 0 0 0 0)) .nil) (st' := ⟨19, [(0, .ptr 0 0 0 0), (1, .s t)], [.box 71 [.ptr 0 0 0 0, .own 1 1 0 (bytesL s).length], .flat false 1 5 (bytesL s).length (vec (eI .u8) 0 (bytesL s))]⟩) (by kernel_rfl) ?_
    refine goK hT 9 (stackAt (Try.f35.body.getD .skip) [1, 1, 0, 6] []) ⟨19, [(1, .s t), (8, .ptr 0 0 0 0), (12, .own 1 1 0 (bytesL s).length), (13, .s t)], [.box 71 [.ptr 0 0 0 0, .own 1 1 0 (bytesL s).length], .flat false 1 5 (bytesL s).length (vec (eI .u8) 0 (bytesL s))]⟩ ?_
    refine ak_appendS (id := 1) (by' := 1) (t := 69) (e := 5) (z := [.int .u8 0]) (dst := some 14) (k' := stackAt (Try.f35.body.getD .skip) [1, 1, 0, 7] []) hT (bytesL s) t [1, 8, 14] (by kernel_rfl) (by kernel_rfl) (by kernel_rfl) (by kernel_rfl) (by kernel_rfl) (by rw [bytesL_length]; omega) (by rw [bytesL_length]; omega) (st' := ⟨19, [(1, .s t), (8, .ptr 0 0 0 0), (14, .own 2 1 0 (bytesL s ++ bytesL t).length)], [.box 71 [.ptr 0 0 0 0, .own 1 1 0 (bytesL s).length], .gone, .flat false 1 5 (bytesL s ++ bytesL t).length (vec (eI .u8) 0 (bytesL s ++ bytesL t))]⟩) (by kernel_rfl) ?_
    refine goK hT 11 (stackAt (Try.f35.body.getD .skip) [1, 1, 1, 1] []) ⟨19, [(4, .i (t.size : Int)), (5, .d (.v .nilIface))], [.box 71 [.ptr 0 0 0 0, .own 2 1 0 (bytesL s ++ bytesL t).length], .gone, .flat false 1 5 (bytesL s ++ bytesL t).length (vec (eI .u8) 0 (bytesL s ++ bytesL t))]⟩ ?_
    exact ak_ret hf hX (av := .tup [.i (t.size : Int), .d (.v .nilIface)]) (by kernel_rfl) [0, 1, 2] (sel_of_eq (by kernel_rfl)) (by decide) (by rw [h0]; rfl) (by kernel_rfl) (fun _ h => all_cons (.box (.cons (.ptr _ _ _ _) (.cons (.own _ _ _ _) .nil))) (fun _ h => all_cons .gone (fun _ h => all_cons (nr_vec (nlI .u8)) (fun _ h => all_nil h) h) h) h) (.tup (.cons (.d (.v _)) (.cons (.d (.v _)) .nil)))

set_option maxHeartbeats 2000000 in
set_option maxRecDepth 100000 in
theorem str_some38 (b g cap n : Nat) (p : Value) (cur : Array Value) (l : List UInt8) (w : World) (h0 : l ≠ []) (hn : l.length ≤ cap) (hcm : cap ≤ maxLen) (hcs : cur.size = cap)
    (hbk : w.heap[b]? = some (.cells #[p, .slice (some ⟨g, 0, none⟩) l.length cap] 71 (0, 0))) (hg : w.heap[g]? = some (.cells cur 5 (0, 0))) (hx : ∀ (j : Nat) x, l[j]? = some x → cur[j]? = some (.int .u8 x.toNat)) :
    Calls Try.prog 38 #[.pointer (some ⟨b, 0, none⟩)] w fun e w' => e = .returned (.string ⟨l.toArray⟩) ∧ w' = w.drew.freeze ⟨g, 0, none⟩ l.length := by
  have hl0 : l.length ≠ 0 := by simpa using h0
  have c1 : w.drew.cell? ⟨b, 1, none⟩ = some (.slice (some ⟨g, 0, none⟩) l.length cap) := by
    have : w.drew.heap[b]? = some (.cells #[p, .slice (some ⟨g, 0, none⟩) l.length cap] 71 (0, 0)) := hbk
    rw [Lib.cell_of_heap this]; rfl
  have hSD : (Builtin.unsafeSliceData_ #[69] 101 #[.slice (some ⟨g, 0, none⟩) l.length cap]).run Try.prog w.drew = .ok (.pointer (some ⟨g, 0, none⟩)) w.drew :=
    Lib.run_unsafeSliceData_row _ _ _ _ _ _ (by omega)
  have hUS : (Builtin.unsafeString_ #[101, 3] 9 #[.pointer (some ⟨g, 0, none⟩), .int .i64 l.length]).run Try.prog w.drew = .ok (.string ⟨l.toArray⟩) (w.drew.freeze ⟨g, 0, none⟩ l.length) := by
    refine Lib.run_unsafeString_row w.drew 101 3 9 5 Try.underlying101 (by kernel_rfl) g cur.size (by have hg' : w.drew.heap[g]? = some (.cells cur 5 (0, 0)) := hg; simp [World.shape?, hg']) l h0 (by omega) (by unfold maxLen at hcm; omega) ?_
    intro j x hx'
    have hg' : w.drew.heap[g]? = some (.cells cur 5 (0, 0)) := hg
    rw [Addr.add_lit, Nat.zero_add, Lib.cell_of_heap hg']
    exact hx j x hx'
  have mixed : Try.prog.follows Departure.mixedOrders = true := by kernel_rfl
  go_enter Try.func38, Try.ntmps38
  go_wp2
  go_region_o
  all_goals (go_wp2; go_ret; exact ⟨rfl, rfl⟩)

set_option maxHeartbeats 2000000 in
set_option maxRecDepth 100000 in
theorem str_nil38 (b : Nat) (p : Value) (w : World) (hbk : w.heap[b]? = some (.cells #[p, .slice none 0 0] 71 (0, 0))) :
    Calls Try.prog 38 #[.pointer (some ⟨b, 0, none⟩)] w fun e w' => e = .returned (.string ⟨#[]⟩) ∧ w' = w.drew := by
  have hUS : ∀ W q, (Builtin.unsafeString_ #[101, 3] 9 #[.pointer q, .int .i64 0]).run Try.prog W = .ok (.string .empty) W := fun W q => Lib.run_unsafeString_none W _ _ _ q
  have c1 : w.drew.cell? ⟨b, 1, none⟩ = some (.slice none 0 0) := by
    have : w.drew.heap[b]? = some (.cells #[p, .slice none 0 0] 71 (0, 0)) := hbk
    rw [Lib.cell_of_heap this]; rfl
  have hSD : (Builtin.unsafeSliceData_ #[69] 101 #[.slice none 0 0]).run Try.prog w.drew = .ok (.pointer none) w.drew := rfl
  have mixed : Try.prog.follows Departure.mixedOrders = true := by kernel_rfl
  go_enter Try.func38, Try.ntmps38
  go_wp2
  go_region_o
  all_goals (go_wp2; go_ret; exact ⟨rfl, rfl⟩)

set_option maxHeartbeats 2000000 in
set_option maxRecDepth 100000 in
theorem str_room38 (b g cap : Nat) (p : Value) (w : World) (hc0 : cap ≠ 0) (hbk : w.heap[b]? = some (.cells #[p, .slice (some ⟨g, 0, none⟩) 0 cap] 71 (0, 0))) :
    Calls Try.prog 38 #[.pointer (some ⟨b, 0, none⟩)] w fun e w' => e = .returned (.string ⟨#[]⟩) ∧ w' = w.drew := by
  have hUS : ∀ W q, (Builtin.unsafeString_ #[101, 3] 9 #[.pointer q, .int .i64 0]).run Try.prog W = .ok (.string .empty) W := fun W q => Lib.run_unsafeString_none W _ _ _ q
  have c1 : w.drew.cell? ⟨b, 1, none⟩ = some (.slice (some ⟨g, 0, none⟩) 0 cap) := by
    have : w.drew.heap[b]? = some (.cells #[p, .slice (some ⟨g, 0, none⟩) 0 cap] 71 (0, 0)) := hbk
    rw [Lib.cell_of_heap this]; rfl
  have hSD : (Builtin.unsafeSliceData_ #[69] 101 #[.slice (some ⟨g, 0, none⟩) 0 cap]).run Try.prog w.drew = .ok (.pointer (some ⟨g, 0, none⟩)) w.drew :=
    Lib.run_unsafeSliceData_row _ _ _ _ _ _ hc0
  clear hc0
  have mixed : Try.prog.follows Departure.mixedOrders = true := by kernel_rfl
  go_enter Try.func38, Try.ntmps38
  go_wp2
  go_region_o
  all_goals (go_wp2; go_ret; exact ⟨rfl, rfl⟩)

set_option maxHeartbeats 2000000 in
set_option maxRecDepth 100000 in
theorem str_noroom38 (b g : Nat) (p : Value) (cur : Array Value) (w : World) (hbk : w.heap[b]? = some (.cells #[p, .slice (some ⟨g, 0, none⟩) 0 0] 71 (0, 0))) (hg : w.heap[g]? = some (.cells cur 5 (0, 0))) :
    Calls Try.prog 38 #[.pointer (some ⟨b, 0, none⟩)] w fun e w' => e = .returned (.string ⟨#[]⟩) ∧ w' = w.drew.alloc (.view ⟨g, 0, none⟩ 5) := by
  have hUS : ∀ W q, (Builtin.unsafeString_ #[101, 3] 9 #[.pointer q, .int .i64 0]).run Try.prog W = .ok (.string .empty) W := fun W q => Lib.run_unsafeString_none W _ _ _ q
  have hlt : b < w.heap.size := (Array.getElem?_eq_some_iff.1 hbk).1
  have c1 : w.drew.cell? ⟨b, 1, none⟩ = some (.slice (some ⟨g, 0, none⟩) 0 0) := by
    have : w.drew.heap[b]? = some (.cells #[p, .slice (some ⟨g, 0, none⟩) 0 0] 71 (0, 0)) := hbk
    rw [Lib.cell_of_heap this]; rfl
  have hSD : (Builtin.unsafeSliceData_ #[69] 101 #[.slice (some ⟨g, 0, none⟩) 0 0]).run Try.prog w.drew = .ok (.pointer (some ⟨w.drew.heap.size, 0, none⟩)) (w.drew.alloc (.view ⟨g, 0, none⟩ 5)) :=
    Lib.run_unsafeSliceData_zero w.drew _ _ 5 Try.underlying101 ⟨g, 0, none⟩ 0 (5, cur.size) (by have hg' : w.drew.heap[g]? = some (.cells cur 5 (0, 0)) := hg; simp [World.shape?, hg'])
  have c2 : (w.drew.alloc (.view ⟨g, 0, none⟩ 5)).cell? ⟨b, 1, none⟩ = some (.slice (some ⟨g, 0, none⟩) 0 0) := by
    have : (w.drew.alloc (.view ⟨g, 0, none⟩ 5)).heap[b]? = _ := (Lib.alloc_old w.drew _ b hlt).trans hbk
    rw [Lib.cell_of_heap this]; rfl
  have c3 : (w.alloc (.view ⟨g, 0, none⟩ 5)).drew.cell? ⟨b, 1, none⟩ = some (.slice (some ⟨g, 0, none⟩) 0 0) := c2
  have c0 : w.cell? ⟨b, 1, none⟩ = some (.slice (some ⟨g, 0, none⟩) 0 0) := c1
  have mixed : Try.prog.follows Departure.mixedOrders = true := by kernel_rfl
  go_enter Try.func38, Try.ntmps38
  go_wp2
  go_region_o
  all_goals (go_wp2; go_ret; exact ⟨rfl, rfl⟩)
theorem bldStr38 : BldStr Try.prog 38 71 5 := ⟨fun b g cap p cur l w h0 hn hcm hcs hbk hg hx => str_some38 b g cap l.length p cur l w h0 hn hcm hcs hbk hg hx, fun b p w hbk => str_nil38 b p w hbk, fun b g cap p w hc hbk => str_room38 b g cap p w hc hbk, fun b g p cur w hbk hg => str_noroom38 b g p cur w hbk hg⟩

open Go.Sort in
theorem sort84 {g : FuncId} (eg : Sy.Enters Try.prog g) (cf : api_Span → api_Span → Int) (hO : SWO (ltOf cf))
    (hs : ∀ x y, Says Try.prog g [] [.d (.agg (api_Span.e x)), .d (.agg (api_Span.e y))] [] (.d (.v (.int .i64 (cf x y))))) (xs : List api_Span) (hb : xs.length * 16 ≤ 140737488355328) :
    Says Try.prog 84 [.flat false 2 24 xs.length (vec api_Span.e api_Span.z xs)] [.own 0 2 0 xs.length, .d (.fn g [])] [.flat false 2 24 xs.length (vec api_Span.e api_Span.z (sortL api_Span.z cf xs))] (.tup []) :=
  sort_saysN Try.sort84Iv api_Span.z 2 Try.isAgg24 Try.sizeOf24 (fun x : api_Span => [.int .i64 x.Lo, .int .i64 x.Hi]) (fun _ => rfl) (fun x v hv => by
    simp only [List.mem_cons, List.not_mem_nil, or_false] at hv
    rcases hv with rfl | rfl <;> rfl) api_Span.e (fun _ => rfl) cf hO g eg (cmp_calls (fun x v hv => by
    simp only [List.mem_cons, List.not_mem_nil, or_false] at hv
    rcases hv with rfl | rfl <;> rfl) (fun _ => rfl) hs) (by omega)



def rAsg : List Item → Code
  | .code (.rangeFunc _ _ a _) :: _ => a
  | _ => .skip
def rBody : List Item → Code
  | .code (.rangeFunc _ _ _ b) :: _ => b
  | _ => .skip
noncomputable def asg87 : Code := rAsg (stackAt (Try.f87.body.getD .skip) [1, 0, 1, 0] [])
noncomputable def body87 : Code := rBody (stackAt (Try.f87.body.getD .skip) [1, 0, 1, 0] [])

def rTail : List Item → Code
  | _ :: _ :: .code c :: _ => c
  | _ => .skip
noncomputable def tail87 : Code := rTail (stackAt (Try.f87.body.getD .skip) [1, 0, 1, 0] [])


theorem round87 (l : Nat) (xs : List api_Span) (x : api_Span) (hb : (xs.length + 1) * 16 ≤ 140737488355328) :
    RoundSays Try.prog l [.loop l .ready 87 13 [2] [.ptr 1 0 0 0] #[7] asg87 body87, .box 48 [.own 2 2 0 xs.length], .flat false 2 24 xs.length (vec api_Span.e api_Span.z xs)] (.d (.agg (api_Span.e x)))
      [.loop l .ready 87 13 [2] [.ptr 1 0 0 0] #[7] asg87 body87, .box 48 [.own 3 2 0 (xs ++ [x]).length], .gone, .flat false 2 24 (xs ++ [x]).length (vec api_Span.e api_Span.z (xs ++ [x]))] := by
  refine round_says (by decide) fun X hP h0 hX => ?_
  have hT : TabOk X.P TI := hP ▸ tokI
  refine go hT 4 [2, 5] (k' := [.beginRound, .code body87]) (st' := ⟨13, [(2, .ptr 1 0 0 0), (5, .ptr 3 0 0 0)], [.loop l .ready 87 13 [2] [.ptr 1 0 0 0] #[7] asg87 body87, .box 48 [.own 2 2 0 xs.length], .flat false 2 24 xs.length (vec api_Span.e api_Span.z xs), .box 24 [.i x.Lo, .i x.Hi]]⟩) (by kernel_rfl) ?_
  refine ak_begin (st' := ⟨13, [(2, .ptr 1 0 0 0), (5, .ptr 3 0 0 0)], [.loop l .busy 87 13 [2] [.ptr 1 0 0 0] #[7] asg87 body87, .box 48 [.own 2 2 0 xs.length], .flat false 2 24 xs.length (vec api_Span.e api_Span.z xs), .box 24 [.i x.Lo, .i x.Hi]]⟩) 0 hX rfl rfl ?_
  refine go hT 5 [2, 8, 10] (k' := stackAt body87 [0, 3] []) (st' := ⟨13, [(2, .ptr 1 0 0 0), (8, .own 2 2 0 xs.length), (10, .own 4 2 0 1)], [.loop l .busy 87 13 [2] [.ptr 1 0 0 0] #[7] asg87 body87, .box 48 [.own 2 2 0 xs.length], .flat false 2 24 xs.length (vec api_Span.e api_Span.z xs), .box 24 [.i x.Lo, .i x.Hi], .flat false 2 24 1 (fun j => [api_Span.e x].getD j [])]⟩) (by kernel_rfl) ?_
  refine ak_append1 (id := 2) (kk := 2) (by' := 16) (t := 48) (e := 24) (z := [.int .i64 0, .int .i64 0]) (dst := some 11) (id2 := 4) (e2 := 24) (fz := false) (k' := stackAt body87 [0, 4] []) hT api_Span.e api_Span.z xs x [2, 11] (by kernel_rfl) (by kernel_rfl) (by kernel_rfl) (by kernel_rfl) (by kernel_rfl) (by kernel_rfl) (by kernel_rfl) hb (by omega)
    (st' := ⟨13, [(2, .ptr 1 0 0 0), (11, .own 5 2 0 (xs ++ [x]).length)], [.loop l .busy 87 13 [2] [.ptr 1 0 0 0] #[7] asg87 body87, .box 48 [.own 2 2 0 xs.length], .gone, .box 24 [.i x.Lo, .i x.Hi], .flat false 2 24 1 (fun j => [api_Span.e x].getD j []), .flat false 2 24 (xs ++ [x]).length (vec api_Span.e api_Span.z (xs ++ [x]))]⟩) (by kernel_rfl) ?_
  refine go hT 3 [] (k' := []) (st' := ⟨13, [], [.loop l .busy 87 13 [2] [.ptr 1 0 0 0] #[7] asg87 body87, .box 48 [.own 5 2 0 (xs ++ [x]).length], .gone, .box 24 [.i x.Lo, .i x.Hi], .flat false 2 24 1 (fun j => [api_Span.e x].getD j []), .flat false 2 24 (xs ++ [x]).length (vec api_Span.e api_Span.z (xs ++ [x]))]⟩) (by kernel_rfl) ?_
  refine ak_cut [] [0, 1, 2, 5] (st' := ⟨13, [], [.loop l .busy 87 13 [2] [.ptr 1 0 0 0] #[7] asg87 body87, .box 48 [.own 3 2 0 (xs ++ [x]).length], .gone, .flat false 2 24 (xs ++ [x]).length (vec api_Span.e api_Span.z (xs ++ [x]))]⟩) (by kernel_rfl) (by kernel_rfl) rfl (by decide) (by rw [h0]; rfl) ?_
  exact ak_roundEnd 0 rfl rfl (fun _ h => all_cons (.loop (.cons (.ptr _ _ _ _) .nil)) (fun _ h => all_cons (.box (.cons (.own _ _ _ _) .nil)) (fun _ h => all_cons .gone (fun _ h => all_cons (nr_vec api_Span.nl) (fun _ h => all_nil h) h) h) h) h)
theorem values85 {tg : Bool} (l : Nat) (xs : List api_Span) (hb : xs.length * 16 ≤ 140737488355328) :
    Says Try.prog 85 [.loop l .ready 87 13 [2] [.ptr 1 0 0 0] #[7] asg87 body87, .box 48 [.own 2 2 0 0], .flat false 2 24 0 (vec api_Span.e api_Span.z [])] [.d (.v (.func (.yield l) #[] #[])), .d (.rop false 1 (fun _ => [.sl tg xs.length (vec api_Span.e api_Span.z  xs)]) 0 0)]
      [.loop l .ready 87 13 [2] [.ptr 1 0 0 0] #[7] asg87 body87, .box 48 [.own 3 2 0 xs.length], .gone, .flat false 2 24 xs.length (vec api_Span.e api_Span.z xs)] (.tup []) := by
  refine says_of Try.func85 rfl (nt := 16) rfl (Nat.le_of_ble_eq_true rfl) fun X hP h0 hX => ?_
  have hT : TabOk X.P TI := hP ▸ tokI
  have hf : X.P.funcs[85]? = some Try.f85 := hP ▸ Try.func85
  refine go hT 8 [0, 5, 6, 7] (k' := stackAt (Try.f85.body.getD .skip) [1, 0, 0] []) (st' := ⟨16, [(0, .d (.v (.func (.yield l) #[] #[]))), (5, .d (.sl tg xs.length (vec api_Span.e api_Span.z xs))), (6, .d (.v (.int .i64 (xs.length : Int)))), (7, .d (.v (.int .i64 0)))], [.loop l .ready 87 13 [2] [.ptr 1 0 0 0] #[7] asg87 body87, .box 48 [.own 2 2 0 0], .flat false 2 24 0 (vec api_Span.e api_Span.z [])]⟩) (by kernel_rfl) ?_
  refine ak_dup 2 (r := .flat false 2 24 0 (vec api_Span.e api_Span.z [])) rfl rfl (st' := ⟨16, [(0, .d (.v (.func (.yield l) #[] #[]))), (5, .d (.sl tg xs.length (vec api_Span.e api_Span.z xs))), (6, .d (.v (.int .i64 (xs.length : Int)))), (7, .d (.v (.int .i64 0)))], [.loop l .ready 87 13 [2] [.ptr 1 0 0 0] #[7] asg87 body87, .box 48 [.own 3 2 0 0], .gone, .flat false 2 24 0 (vec api_Span.e api_Span.z [])]⟩) (by kernel_rfl) (by kernel_rfl) rfl ?_
  have L : ∀ m i : Nat, i + m = xs.length → AK X 85 (stackAt (Try.f85.body.getD .skip) [1, 0, 0] []) (Back X [.loop l .ready 87 13 [2] [.ptr 1 0 0 0] #[7] asg87 body87, .box 48 [.own 3 2 0 xs.length], .gone, .flat false 2 24 xs.length (vec api_Span.e api_Span.z xs)] (.tup [])) ⟨16, [(0, .d (.v (.func (.yield l) #[] #[]))), (5, .d (.sl tg xs.length (vec api_Span.e api_Span.z xs))), (6, .d (.v (.int .i64 (xs.length : Int)))), (7, .d (.v (.int .i64 (i : Int))))], [.loop l .ready 87 13 [2] [.ptr 1 0 0 0] #[7] asg87 body87, .box 48 [.own 3 2 0 (xs.take i).length], .gone, .flat false 2 24 (xs.take i).length (vec api_Span.e api_Span.z (xs.take i))]⟩ := by
    intro m
    induction m with
    | zero =>
      intro i hi
      refine go hT 5 [0, 5, 6, 7, 8] (k' := stackAt (Try.f85.body.getD .skip) [1, 0, 0, 1, 0] []) (st' := ⟨16, [(0, .d (.v (.func (.yield l) #[] #[]))), (5, .d (.sl tg xs.length (vec api_Span.e api_Span.z xs))), (6, .d (.v (.int .i64 (xs.length : Int)))), (7, .d (.v (.int .i64 (i : Int)))), (8, .d (.v (.bool (decide ((i : Int) < (xs.length : Int))))))], [.loop l .ready 87 13 [2] [.ptr 1 0 0 0] #[7] asg87 body87, .box 48 [.own 3 2 0 (xs.take i).length], .gone, .flat false 2 24 (xs.take i).length (vec api_Span.e api_Span.z (xs.take i))]⟩) (by kernel_rfl) ?_
      rw [decide_eq_false (show ¬ (i : Int) < (xs.length : Int) by omega)]
      have hx : xs.take i = xs := List.take_of_length_le (by omega)
      rw [hx]
      refine go hT 2 [] (k' := []) (st' := ⟨16, [], [.loop l .ready 87 13 [2] [.ptr 1 0 0 0] #[7] asg87 body87, .box 48 [.own 3 2 0 xs.length], .gone, .flat false 2 24 xs.length (vec api_Span.e api_Span.z xs)]⟩) (by kernel_rfl) ?_
      exact ak_end hf hX (av := .tup []) (by kernel_rfl) [0, 1, 2, 3] (sel_of_eq (by kernel_rfl)) (by decide) (by rw [h0]; rfl) (by kernel_rfl)
        (fun _ h => all_cons (.loop (.cons (.ptr _ _ _ _) .nil)) (fun _ h => all_cons (.box (.cons (.own _ _ _ _) .nil)) (fun _ h => all_cons .gone (fun _ h => all_cons (nr_vec api_Span.nl) (fun _ h => all_nil h) h) h) h) h) (.tup .nil)
    | succ m ih =>
      intro i hi
      have hlen : (xs.take i).length = i := by rw [List.length_take]; omega
      refine go hT 5 [0, 5, 6, 7, 8] (k' := stackAt (Try.f85.body.getD .skip) [1, 0, 0, 1, 0] []) (st' := ⟨16, [(0, .d (.v (.func (.yield l) #[] #[]))), (5, .d (.sl tg xs.length (vec api_Span.e api_Span.z xs))), (6, .d (.v (.int .i64 (xs.length : Int)))), (7, .d (.v (.int .i64 (i : Int)))), (8, .d (.v (.bool (decide ((i : Int) < (xs.length : Int))))))], [.loop l .ready 87 13 [2] [.ptr 1 0 0 0] #[7] asg87 body87, .box 48 [.own 3 2 0 (xs.take i).length], .gone, .flat false 2 24 (xs.take i).length (vec api_Span.e api_Span.z (xs.take i))]⟩) (by kernel_rfl) ?_
      rw [decide_eq_true (show (i : Int) < (xs.length : Int) by omega)]
      refine go hT 6 [0, 5, 6, 7] (k' := stackAt (Try.f85.body.getD .skip) [1, 0, 0, 1, 1, 0, 0, 0, 0] []) (st' := ⟨16, [(0, .d (.v (.func (.yield l) #[] #[]))), (5, .d (.sl tg xs.length (vec api_Span.e api_Span.z xs))), (6, .d (.v (.int .i64 (xs.length : Int)))), (7, .d (.v (.int .i64 (i : Int))))], [.loop l .ready 87 13 [2] [.ptr 1 0 0 0] #[7] asg87 body87, .box 48 [.own 3 2 0 (xs.take i).length], .gone, .flat false 2 24 (xs.take i).length (vec api_Span.e api_Span.z (xs.take i))]⟩) (by kernel_rfl) ?_
      refine ak_idx hT [0, 5, 6, 7, 9] (i := (i : Int)) (n := (xs.length : Int)) (by omega) (by omega) (k' := stackAt (Try.f85.body.getD .skip) [1, 0, 0, 1, 1, 0, 0, 0, 1] []) (st' := ⟨16, [(0, .d (.v (.func (.yield l) #[] #[]))), (5, .d (.sl tg xs.length (vec api_Span.e api_Span.z xs))), (6, .d (.v (.int .i64 (xs.length : Int)))), (7, .d (.v (.int .i64 (i : Int)))), (9, .d (.rop tg xs.length (vec api_Span.e api_Span.z  xs) (i : Int).toNat 0))], [.loop l .ready 87 13 [2] [.ptr 1 0 0 0] #[7] asg87 body87, .box 48 [.own 3 2 0 (xs.take i).length], .gone, .flat false 2 24 (xs.take i).length (vec api_Span.e api_Span.z (xs.take i))]⟩) (by kernel_rfl) ?_
      refine go hT 8 [0, 5, 6, 7, 11, 12] (k' := stackAt (Try.f85.body.getD .skip) [1, 0, 0, 1, 1, 0, 0, 1, 0, 2] []) (st' := ⟨16, [(0, .d (.v (.func (.yield l) #[] #[]))), (5, .d (.sl tg xs.length (vec api_Span.e api_Span.z xs))), (6, .d (.v (.int .i64 (xs.length : Int)))), (7, .d (.v (.int .i64 (i : Int)))), (11, .d (.v (.func (.yield l) #[] #[]))), (12, .d (.agg (api_Span.e (xs.getD (i : Int).toNat api_Span.z))))], [.loop l .ready 87 13 [2] [.ptr 1 0 0 0] #[7] asg87 body87, .box 48 [.own 3 2 0 (xs.take i).length], .gone, .flat false 2 24 (xs.take i).length (vec api_Span.e api_Span.z (xs.take i)), .box 24 [.i ((xs.getD (i : Int).toNat api_Span.z).Lo), .i ((xs.getD (i : Int).toNat api_Span.z).Hi)]]⟩) (by kernel_rfl) ?_
      refine ak_yield (av := .d (.agg (api_Span.e (xs.getD (i : Int).toNat api_Span.z)))) (dst := some 13) (k' := stackAt (Try.f85.body.getD .skip) [1, 0, 0, 1, 1, 0, 0, 1, 0, 3] []) [0, 5, 6, 7, 13] [0, 1, 3] hP (round87 l (xs.take i) (xs.getD (i : Int).toNat api_Span.z) (by rw [hlen]; omega)) (by kernel_rfl) (hands_three rfl rfl rfl (by decide)) (.cons (pass_d _) .nil)
        (st' := ⟨16, [(0, .d (.v (.func (.yield l) #[] #[]))), (5, .d (.sl tg xs.length (vec api_Span.e api_Span.z xs))), (6, .d (.v (.int .i64 (xs.length : Int)))), (7, .d (.v (.int .i64 (i : Int)))), (13, .d (.v (.bool true)))], [.loop l .ready 87 13 [2] [.ptr 1 0 0 0] #[7] asg87 body87, .box 48 [.own 5 2 0 (xs.take i ++ [(xs.getD (i : Int).toNat api_Span.z)]).length], .gone, .gone, .box 24 [.i ((xs.getD (i : Int).toNat api_Span.z).Lo), .i ((xs.getD (i : Int).toNat api_Span.z).Hi)], .flat false 2 24 (xs.take i ++ [(xs.getD (i : Int).toNat api_Span.z)]).length (vec api_Span.e api_Span.z (xs.take i ++ [(xs.getD (i : Int).toNat api_Span.z)]))]⟩) (by kernel_rfl) ?_
      refine go hT 10 [0, 5, 6, 7] (k' := stackAt (Try.f85.body.getD .skip) [1, 0, 0] []) (st' := ⟨16, [(0, .d (.v (.func (.yield l) #[] #[]))), (5, .d (.sl tg xs.length (vec api_Span.e api_Span.z xs))), (6, .d (.v (.int .i64 (xs.length : Int)))), (7, .d (.v (.int .i64 (IntKind.wrap .i64 ((i : Int) + 1)))))], [.loop l .ready 87 13 [2] [.ptr 1 0 0 0] #[7] asg87 body87, .box 48 [.own 5 2 0 (xs.take i ++ [(xs.getD (i : Int).toNat api_Span.z)]).length], .gone, .gone, .box 24 [.i ((xs.getD (i : Int).toNat api_Span.z).Lo), .i ((xs.getD (i : Int).toNat api_Span.z).Hi)], .flat false 2 24 (xs.take i ++ [(xs.getD (i : Int).toNat api_Span.z)]).length (vec api_Span.e api_Span.z (xs.take i ++ [(xs.getD (i : Int).toNat api_Span.z)]))]⟩) (by kernel_rfl) ?_
      have hw : IntKind.wrap .i64 ((i : Int) + 1) = ((i + 1 : Nat) : Int) := by simp [IntKind.wrap, IntKind.bits, IntKind.signed]; omega
      have ht : xs.take i ++ [(xs.getD (i : Int).toNat api_Span.z)] = xs.take (i + 1) := by
        rw [List.take_add_one]
        simp [show i < xs.length by omega]
      rw [hw, ht]
      refine ak_cut [0, 5, 6, 7] [0, 1, 2, 5] (st' := ⟨16, [(0, .d (.v (.func (.yield l) #[] #[]))), (5, .d (.sl tg xs.length (vec api_Span.e api_Span.z xs))), (6, .d (.v (.int .i64 (xs.length : Int)))), (7, .d (.v (.int .i64 ((i + 1 : Nat) : Int))))], [.loop l .ready 87 13 [2] [.ptr 1 0 0 0] #[7] asg87 body87, .box 48 [.own 3 2 0 (xs.take (i + 1)).length], .gone, .flat false 2 24 (xs.take (i + 1)).length (vec api_Span.e api_Span.z (xs.take (i + 1)))]⟩) (by kernel_rfl) (by kernel_rfl) rfl (by decide) (by rw [h0]; rfl) ?_
      exact ih (i + 1) (by omega)
  exact L xs.length 0 (by omega)
theorem appendSeq87 {tg : Bool} (xs : List api_Span) (hb : xs.length * 16 ≤ 140737488355328) :
    Says Try.prog 87 [] [.d (.v (.slice none 0 0)), .d (.fn 85 [.rop false 1 (fun _ => [.sl tg xs.length (vec api_Span.e api_Span.z xs)]) 0 0])] [.flat false 2 24 xs.length (vec api_Span.e api_Span.z  xs)] (.own 0 2 0 xs.length) := by
  refine says_of Try.func87 rfl (nt := 13) rfl (Nat.le_of_ble_eq_true rfl) fun X hP h0 hX => ?_
  have hT : TabOk X.P TI := hP ▸ tokI
  have hf : X.P.funcs[87]? = some Try.f87 := hP ▸ Try.func87
  refine ak_nilS [0, 1] 0 2 24 (vec api_Span.e api_Span.z []) (st' := ⟨13, [(0, .own 0 2 0 0), (1, .d (.fn 85 [.rop false 1 (fun _ => [.sl tg xs.length (vec api_Span.e api_Span.z xs)]) 0 0]))], [.flat false 2 24 0 (vec api_Span.e api_Span.z [])]⟩) (by kernel_rfl) (by kernel_rfl) ?_
  refine go hT 11 [2, 6] (k' := stackAt (Try.f87.body.getD .skip) [1, 0, 1, 0] []) (st' := ⟨13, [(2, .ptr 1 0 0 0), (6, .d (.fn 85 [.rop false 1 (fun _ => [.sl tg xs.length (vec api_Span.e api_Span.z xs)]) 0 0]))], [.flat false 2 24 0 (vec api_Span.e api_Span.z []), .box 48 [.own 0 2 0 0]]⟩) (by kernel_rfl) ?_
  refine ak_cut [2, 6] [1, 0] (st' := ⟨13, [(2, .ptr 0 0 0 0), (6, .d (.fn 85 [.rop false 1 (fun _ => [.sl tg xs.length (vec api_Span.e api_Span.z xs)]) 0 0]))], [.box 48 [.own 1 2 0 0], .flat false 2 24 0 (vec api_Span.e api_Span.z [])]⟩) (by kernel_rfl) (by kernel_rfl) rfl (by decide) (by rw [h0]; rfl) ?_
  refine ak_rangeFunc (P := Try.prog) (f := 87) (g := 85) (fop := .tmp 6) (p := 7) (asg := asg87) (body := body87) (k := [.inBlock 0, .code (tail87)]) (caps := [.rop false 1 (fun _ => [.sl tg xs.length (vec api_Span.e api_Span.z xs)]) 0 0]) (ret := .tup []) [2] [.ptr 0 0 0 0] [.ptr 0 0 0 0] [3, 0, 1]
    (fun l => [.loop l .ready 87 13 [2] [.ptr 1 0 0 0] #[7] asg87 body87, .box 48 [.own 2 2 0 0], .flat false 2 24 0 (vec api_Span.e api_Span.z [])]) (fun l => [.loop l .ready 87 13 [2] [.ptr 1 0 0 0] #[7] asg87 body87, .box 48 [.own 3 2 0 xs.length], .gone, .flat false 2 24 xs.length (vec api_Span.e api_Span.z  xs)]) (fun l => [.d (.v (.func (.yield l) #[] #[])), .d (.rop false 1 (fun _ => [.sl tg xs.length (vec api_Span.e api_Span.z xs)]) 0 0)])
    hP hX (by kernel_rfl) enters_85 (by kernel_rfl) (fun l => values85 l xs hb) (fun D => hands_three rfl rfl rfl (by decide)) (fun D => .cons (pass_d _) (.cons (pass_d _) .nil)) (fun D => by kernel_rfl) fun D => ?_
  have hT2 : TabOk (X.mark D).P TI := hT
  refine go hT2 6 [4] (k' := [.code .ret]) (st' := ⟨13, [(4, .own 4 2 0 xs.length)], [.box 48 [.own 4 2 0 xs.length], .gone, .dfr D, .gone, .flat false 2 24 xs.length (vec api_Span.e api_Span.z  xs)]⟩) (by kernel_rfl) ?_
  have fin := ak_retD (X := X.mark D) (f := 87) (k := []) (ret := .own 0 2 0 xs.length) (rowsOut := [.flat false 2 24 xs.length (vec api_Span.e api_Span.z xs)]) (st := ⟨13, [(4, .own 4 2 0 xs.length)], [.box 48 [.own 4 2 0 xs.length], .gone, .dfr D, .gone, .flat false 2 24 xs.length (vec api_Span.e api_Span.z xs)]⟩) 2 hf ⟨rfl, rfl⟩ (by kernel_rfl) (av := .own 4 2 0 xs.length) (by kernel_rfl) [4] (by decide) (sel_of_eq (by kernel_rfl)) (by decide) (by have h1 : (X.mark D).μ0.length = 0 := h0; rw [h1]; rfl) (by kernel_rfl) (fun _ h => all_cons (nr_vec api_Span.nl) (fun _ h => all_nil h) h) (.own _ _ _ _)
  rw [mark_plain D hX] at fin
  exact fin
theorem collect83 {tg : Bool} (xs : List api_Span) (hb : xs.length * 16 ≤ 140737488355328) :
    Says Try.prog 83 [] [.d (.fn 85 [.rop false 1 (fun _ => [.sl tg xs.length (vec api_Span.e api_Span.z xs)]) 0 0])] [.flat false 2 24 xs.length (vec api_Span.e api_Span.z  xs)] (.own 0 2 0 xs.length) := by
  refine says_of Try.func83 rfl (nt := 5) rfl (Nat.le_of_ble_eq_true rfl) fun X hP h0 hX => ?_
  have hT : TabOk X.P TI := hP ▸ tokI
  have hf : X.P.funcs[83]? = some Try.f83 := hP ▸ Try.func83
  refine go hT 7 [3] (k' := stackAt (Try.f83.body.getD .skip) [1, 0, 1] []) (st' := ⟨5, [(3, .d (.fn 85 [.rop false 1 (fun _ => [.sl tg xs.length (vec api_Span.e api_Span.z xs)]) 0 0]))], []⟩) (by kernel_rfl) ?_
  refine ak_callP (avs := [.d (.v (.slice none 0 0)), .d (.fn 85 [.rop false 1 (fun _ => [.sl tg xs.length (vec api_Span.e api_Span.z xs)]) 0 0])]) (dst := some 4) (k' := stackAt (Try.f83.body.getD .skip) [1, 0, 2] []) [4] [] hP enters_87 (appendSeq87 (tg := tg) xs hb) (by kernel_rfl) (hands_none _) (.cons (pass_d _) (.cons (pass_d _) .nil))
    (st' := ⟨5, [(4, .own 0 2 0 xs.length)], [.flat false 2 24 xs.length (vec api_Span.e api_Span.z  xs)]⟩) (by kernel_rfl) ?_
  refine go hT 2 [2] (k' := stackAt (Try.f83.body.getD .skip) [1, 1] []) (st' := ⟨5, [(2, .own 0 2 0 xs.length)], [.flat false 2 24 xs.length (vec api_Span.e api_Span.z  xs)]⟩) (by kernel_rfl) ?_
  exact ak_ret hf hX (av := .own 0 2 0 xs.length) (by kernel_rfl) [0] (sel_of_eq (by kernel_rfl)) (by decide) (by rw [h0]; rfl) (by kernel_rfl) (fun _ h => all_cons (nr_vec api_Span.nl) (fun _ h => all_nil h) h) (.own _ _ _ _)

open Go.Sort in
theorem sortedFunc69' {tg : Bool} {g : FuncId} (eg : Sy.Enters Try.prog g) (cf : api_Span → api_Span → Int) (hO : SWO (ltOf cf))
    (hs : ∀ x y, Says Try.prog g [] [.d (.agg (api_Span.e x)), .d (.agg (api_Span.e y))] [] (.d (.v (.int .i64 (cf x y))))) (xs : List api_Span) (hb : xs.length * 16 ≤ 140737488355328) :
    Says Try.prog 69 [] [.d (.fn 85 [.rop false 1 (fun _ => [.sl tg xs.length (vec api_Span.e api_Span.z xs)]) 0 0]), .d (.fn g [])] [.flat false 2 24 xs.length (vec api_Span.e api_Span.z (sortL api_Span.z cf xs))] (.own 0 2 0 xs.length) := by
  refine says_of Try.func69 rfl (nt := 12) rfl (Nat.le_of_ble_eq_true rfl) fun X hP h0 hX => ?_
  have hT : TabOk X.P TI := hP ▸ tokI
  have hf : X.P.funcs[69]? = some Try.f69 := hP ▸ Try.func69
  refine go hT 7 [1, 6] (k' := stackAt (Try.f69.body.getD .skip) [1, 0, 1] []) (st' := ⟨12, [(1, .d (.fn g [])), (6, .d (.fn 85 [.rop false 1 (fun _ => [.sl tg xs.length (vec api_Span.e api_Span.z xs)]) 0 0]))], []⟩) (by kernel_rfl) ?_
  refine ak_callP (avs := [.d (.fn 85 [.rop false 1 (fun _ => [.sl tg xs.length (vec api_Span.e api_Span.z xs)]) 0 0])]) (dst := some 7) (k' := stackAt (Try.f69.body.getD .skip) [1, 0, 2] []) [1, 7] [] hP enters_83 (collect83 (tg := tg) xs hb) (by kernel_rfl) (hands_none _) (.cons (pass_d _) .nil)
    (st' := ⟨12, [(1, .d (.fn g [])), (7, .own 0 2 0 xs.length)], [.flat false 2 24 xs.length (vec api_Span.e api_Span.z xs)]⟩) (by kernel_rfl) ?_
  refine go hT 6 [5, 8, 9] (k' := stackAt (Try.f69.body.getD .skip) [1, 1, 0, 2] []) (st' := ⟨12, [(5, .own 0 2 0 xs.length), (8, .own 0 2 0 xs.length), (9, .d (.fn g []))], [.flat false 2 24 xs.length (vec api_Span.e api_Span.z xs)]⟩) (by kernel_rfl) ?_
  refine ak_callP (avs := [.own 0 2 0 xs.length, .d (.fn g [])]) (dst := some 10) (k' := stackAt (Try.f69.body.getD .skip) [1, 1, 0, 3] []) [5] [0] hP enters_84 (sort84 eg cf hO hs xs hb) (by kernel_rfl) (hands_one rfl rfl) (.cons (.same (.own 0 2 0 xs.length)) (.cons (pass_d _) .nil))
    (st' := ⟨12, [(5, .own 0 2 0 xs.length)], [.flat false 2 24 xs.length (vec api_Span.e api_Span.z (sortL api_Span.z cf xs))]⟩) (by kernel_rfl) ?_
  refine go hT 6 [4] (k' := stackAt (Try.f69.body.getD .skip) [1, 1, 1, 1] []) (st' := ⟨12, [(4, .own 0 2 0 xs.length)], [.flat false 2 24 xs.length (vec api_Span.e api_Span.z (sortL api_Span.z cf xs))]⟩) (by kernel_rfl) ?_
  exact ak_ret hf hX (av := .own 0 2 0 xs.length) (by kernel_rfl) [0] (sel_of_eq (by kernel_rfl)) (by decide) (by rw [h0]; rfl) (by kernel_rfl) (fun _ h => all_cons (nr_vec api_Span.nl) (fun _ h => all_nil h) h) (.own _ _ _ _)

open Go.Sort in
theorem sortedFunc69 {tg : Bool} {g : FuncId} (eg : Sy.Enters Try.prog g) (cf : api_Span → api_Span → Int) (hO : SWO (ltOf cf))
    (hs : ∀ x y, Says Try.prog g [] [.d (.agg (api_Span.e x)), .d (.agg (api_Span.e y))] [] (.d (.v (.int .i64 (cf x y))))) (xs : List api_Span) (hb : xs.length * 16 ≤ 140737488355328) :
    Says Try.prog 69 [] [.d (.fn 85 [.rop false 1 (fun _ => [.sl tg xs.length (vec api_Span.e api_Span.z xs)]) 0 0]), .d (.fn g [])] [.flat false 2 24 (sortL api_Span.z cf xs).length (vec api_Span.e api_Span.z (sortL api_Span.z cf xs))] (.own 0 2 0 (sortL api_Span.z cf xs).length) := by
  have h := sortedFunc69' (tg := tg) eg cf hO hs xs hb
  have : ∀ n, n = xs.length → Says Try.prog 69 [] [.d (.fn 85 [.rop false 1 (fun _ => [.sl tg xs.length (vec api_Span.e api_Span.z xs)]) 0 0]), .d (.fn g [])] [.flat false 2 24 n (vec api_Span.e api_Span.z (sortL api_Span.z cf xs))] (.own 0 2 0 n) := fun n hn => by
    subst hn
    exact h
  exact this _ (sortL_length _ hO xs)

theorem values70 (xs : List api_Span) :
    Says Try.prog 70 [] [.d (.sl true xs.length (vec api_Span.e api_Span.z xs))] [.box 48 [.d (.sl true xs.length (vec api_Span.e api_Span.z xs))]] (.fn 85 [.ptr 0 0 0 0]) := by
  refine says_of Try.func70 rfl (nt := 4) rfl (Nat.le_of_ble_eq_true rfl) fun X hP h0 hX => ?_
  have hT : TabOk X.P TI := hP ▸ tokI
  have hf : X.P.funcs[70]? = some Try.f70 := hP ▸ Try.func70
  refine go hT 10 [2] (k' := stackAt (Try.f70.body.getD .skip) [1, 1] []) (st' := ⟨4, [(2, .fn 85 [.ptr 0 0 0 0])], [.box 48 [.d (.sl true xs.length (vec api_Span.e api_Span.z xs))]]⟩) (by kernel_rfl) ?_
  exact ak_ret hf hX (av := .fn 85 [.ptr 0 0 0 0]) (by kernel_rfl) [0] (sel_of_eq (by kernel_rfl)) (by decide) (by rw [h0]; rfl) (by kernel_rfl) (fun _ h => all_cons (.box (.cons (.d (.sl fun _ _ => api_Span.nl _)) .nil)) (fun _ h => all_nil h) h) (.fn (.cons (.ptr _ _ _ _) .nil))
end Go.SyP
