/- Contracts of the library at this seat. -/
import Derived.Test.YtboaahlhgekbbaaG06D
import Derived.Test.YtboaahlhgekbbaaSyX
import Derived.Test.YtboaahlhgekbbaaSyS
import Derived.Test.YtboaahlhgekbbaaSyU
import Derived.Shelf.Spec.SlicesInsertGrow
set_option linter.unusedVariables false
set_option linter.unusedSimpArgs false
namespace Go.SyP
open Go Go.Sy Go.Proofs Go.Lib Go.RowKit

def TI : Tab where
  info := [(3, 1, 8, [.int .i64 0]), (26, 1, 24, [.slice none 0 0]), (70, 2, 16, [.int .i64 0, .int .i64 0])]
  aggs := [(3, false), (26, false), (70, true)]
  slices := [(26, 70)]
  bools := []
theorem tokI : TabOk Try.prog TI := ⟨by kernel_rfl, by kernel_rfl, by kernel_rfl, by kernel_rfl, by kernel_rfl, by kernel_rfl, by kernel_rfl, by kernel_rfl, by kernel_rfl, by kernel_rfl, by kernel_rfl, by kernel_rfl⟩

theorem clone54 {tg : Bool} (xs : List api_Pair) (hb : xs.length * 16 ≤ 140737488355328) :
    Says Try.prog 54 [] [.d (.sl tg xs.length (vec api_Pair.e api_Pair.z xs))] [.flat false 2 70 xs.length (vec api_Pair.e api_Pair.z xs)] (.own 0 2 0 xs.length) := by
  refine says_of Try.func54 rfl (nt := 8) rfl (Nat.le_of_ble_eq_true rfl) fun X hP h0 hX => ?_
  have hT : TabOk X.P TI := hP ▸ tokI
  have hf : X.P.funcs[54]? = some Try.f54 := hP ▸ Try.func54
  refine go hT 8 [0, 3] (k' := stackAt (Try.f54.body.getD .skip) [1, 0, 0, 1] []) (st' := ⟨8, [(0, .d (.sl tg xs.length (vec api_Pair.e api_Pair.z xs))), (3, .d (.sl tg xs.length (vec api_Pair.e api_Pair.z xs)))], []⟩) (by kernel_rfl) ?_
  refine ak_nilcmp (eq := true) (n := xs.length) (dst := some 4) (k' := stackAt (Try.f54.body.getD .skip) [1, 0, 0, 2] []) hT [0, 4] (st' := fun b => ⟨8, [(0, .d (.sl tg xs.length (vec api_Pair.e api_Pair.z xs))), (4, .d (.v (.bool b)))], []⟩) (by kernel_rfl) (fun b => by kernel_rfl) ?_
  intro b hbn
  cases b with
  | true =>
    have hx : xs = [] := List.length_eq_zero_iff.1 (hbn rfl)
    subst hx
    refine go hT 6 [2] (k' := stackAt (Try.f54.body.getD .skip) [1, 0, 1, 0, 1] []) (st' := ⟨8, [(2, .d (.v (.slice none 0 0)))], []⟩) (by kernel_rfl) ?_
    refine ak_nilS [2] 2 2 70 (vec api_Pair.e api_Pair.z []) (st' := ⟨8, [(2, .own 0 2 0 0)], [.flat false 2 70 0 (vec api_Pair.e api_Pair.z [])]⟩) (by kernel_rfl) (by kernel_rfl) ?_
    exact ak_ret hf hX (av := .own 0 2 0 0) (by kernel_rfl) [0] (sel_of_eq (by kernel_rfl)) (by decide) (by rw [h0]; rfl) (by kernel_rfl) (fun _ h => all_cons (nr_vec api_Pair.nl) (fun _ h => all_nil h) h) (.own _ _ _ _)
  | false =>
    refine go hT 5 [0] (k' := stackAt (Try.f54.body.getD .skip) [1, 1, 0, 0] []) (st' := ⟨8, [(0, .d (.sl tg xs.length (vec api_Pair.e api_Pair.z xs)))], []⟩) (by kernel_rfl) ?_
    refine ak_emptyS (e := 70) (s := 2) (dst := some 5) (k' := stackAt (Try.f54.body.getD .skip) [1, 1, 0, 1] []) hT [0, 5] (vec api_Pair.e api_Pair.z []) (by kernel_rfl) (st' := ⟨8, [(0, .d (.sl tg xs.length (vec api_Pair.e api_Pair.z xs))), (5, .own 0 2 0 0)], [.flat false 2 70 0 (vec api_Pair.e api_Pair.z [])]⟩) (by kernel_rfl) ?_
    refine go hT 1 [5, 6] (k' := stackAt (Try.f54.body.getD .skip) [1, 1, 0, 2] []) (st' := ⟨8, [(5, .own 0 2 0 ([] : List api_Pair).length), (6, .d (.sl tg xs.length (vec api_Pair.e api_Pair.z xs)))], [.flat false 2 70 ([] : List api_Pair).length (vec api_Pair.e api_Pair.z [])]⟩) (by kernel_rfl) ?_
    refine ak_appendL (id := 0) (kk := 2) (by' := 16) (t := 26) (e := 70) (z := [.int .i64 0, .int .i64 0]) (dst := some 7) (k' := stackAt (Try.f54.body.getD .skip) [1, 1, 0, 3] []) (x := .d (.sl tg xs.length (vec api_Pair.e api_Pair.z xs))) hT api_Pair.e api_Pair.z [] xs [7] (by kernel_rfl) (by kernel_rfl) (.sl fun _ _ => rfl) (by kernel_rfl) (by kernel_rfl) (by kernel_rfl) (by kernel_rfl) (by simpa using hb) (by simp; omega) (st' := ⟨8, [(7, .own 1 2 0 ([] ++ xs).length)], [.gone, .flat false 2 70 ([] ++ xs).length (vec api_Pair.e api_Pair.z ([] ++ xs))]⟩) (by kernel_rfl) ?_
    refine go hT 2 [2] (k' := stackAt (Try.f54.body.getD .skip) [1, 1, 1] []) (st' := ⟨8, [(2, .own 1 2 0 xs.length)], [.gone, .flat false 2 70 xs.length (vec api_Pair.e api_Pair.z xs)]⟩) (by kernel_rfl) ?_
    exact ak_ret hf hX (av := .own 1 2 0 xs.length) (by kernel_rfl) [1] (sel_of_eq (by kernel_rfl)) (by decide) (by rw [h0]; rfl) (by kernel_rfl) (fun _ h => all_cons (nr_vec api_Pair.nl) (fun _ h => all_nil h) h) (.own _ _ _ _)
end Go.SyP
