/- slices.Values and slices.Collect at api.Span (seat 03). -/
import Derived.Test.YtkgiljggkgfkjaaG03D
import Derived.Test.YtkgiljggkgfkjaaSyS
import Derived.Test.YtkgiljggkgfkjaaSyU
import Derived.Test.YtkgiljggkgfkjaaG03S
set_option linter.unusedVariables false
set_option linter.unusedSimpArgs false
namespace Go.SyP
open Go Go.Sy Go.Proofs

def rAsg : List Item → Code
  | .code (.rangeFunc _ _ a _) :: _ => a
  | _ => .skip
def rBody : List Item → Code
  | .code (.rangeFunc _ _ _ b) :: _ => b
  | _ => .skip
noncomputable def asg55 : Code := rAsg (stackAt (Try.f55.body.getD .skip) [1, 0, 1, 0] [])
noncomputable def body55 : Code := rBody (stackAt (Try.f55.body.getD .skip) [1, 0, 1, 0] [])

def TI : Tab where
  info := [(3, 1, 8, [.int .i64 0]), (22, 1, 24, [.slice none 0 0]), (39, 2, 16, [.int .i64 0, .int .i64 0])]
  aggs := [(3, false), (22, false), (39, true)]
  slices := [(22, 39)]
  bools := []
theorem tokI : TabOk Try.prog TI := ⟨by kernel_rfl, by kernel_rfl, by kernel_rfl, by kernel_rfl, by kernel_rfl, by kernel_rfl, by kernel_rfl, by kernel_rfl, by kernel_rfl, by kernel_rfl, by kernel_rfl, by kernel_rfl⟩

def rTail : List Item → Code
  | _ :: _ :: .code c :: _ => c
  | _ => .skip
noncomputable def tail55 : Code := rTail (stackAt (Try.f55.body.getD .skip) [1, 0, 1, 0] [])

theorem enters_52 : Sy.Enters Try.prog 52 := enters_fn Try.func52 (by kernel_rfl) (by kernel_rfl)
theorem enters_55 : Sy.Enters Try.prog 55 := enters_fn Try.func55 (by kernel_rfl) (by kernel_rfl)
theorem enters_50 : Sy.Enters Try.prog 50 := enters_fn Try.func50 (by kernel_rfl) (by kernel_rfl)
theorem enters_51 : Sy.Enters Try.prog 51 := enters_fn Try.func51 (by kernel_rfl) (by kernel_rfl)

theorem round55 (l : Nat) (xs : List api_Span) (x : api_Span) (hb : (xs.length + 1) * 16 ≤ 140737488355328) :
    RoundSays Try.prog l [.loop l .ready 55 13 [2] [.ptr 1 0 0 0] #[7] asg55 body55, .box 22 [.own 2 2 0 xs.length], .flat false 2 39 xs.length (vec api_Span.e api_Span.z xs)] (.d (.agg (api_Span.e x)))
      [.loop l .ready 55 13 [2] [.ptr 1 0 0 0] #[7] asg55 body55, .box 22 [.own 3 2 0 (xs ++ [x]).length], .gone, .flat false 2 39 (xs ++ [x]).length (vec api_Span.e api_Span.z (xs ++ [x]))] := by
  refine round_says (by decide) fun X hP h0 hX => ?_
  have hT : TabOk X.P TI := hP ▸ tokI
  refine go hT 4 [2, 5] (k' := [.beginRound, .code body55]) (st' := ⟨13, [(2, .ptr 1 0 0 0), (5, .ptr 3 0 0 0)], [.loop l .ready 55 13 [2] [.ptr 1 0 0 0] #[7] asg55 body55, .box 22 [.own 2 2 0 xs.length], .flat false 2 39 xs.length (vec api_Span.e api_Span.z xs), .box 39 [.d (.v (.int .i64 x.Lo)), .d (.v (.int .i64 x.Hi))]]⟩) (by kernel_rfl) ?_
  refine ak_begin (st' := ⟨13, [(2, .ptr 1 0 0 0), (5, .ptr 3 0 0 0)], [.loop l .busy 55 13 [2] [.ptr 1 0 0 0] #[7] asg55 body55, .box 22 [.own 2 2 0 xs.length], .flat false 2 39 xs.length (vec api_Span.e api_Span.z xs), .box 39 [.d (.v (.int .i64 x.Lo)), .d (.v (.int .i64 x.Hi))]]⟩) 0 hX rfl rfl ?_
  refine go hT 5 [2, 8, 10] (k' := stackAt body55 [0, 3] []) (st' := ⟨13, [(2, .ptr 1 0 0 0), (8, .own 2 2 0 xs.length), (10, .own 4 2 0 1)], [.loop l .busy 55 13 [2] [.ptr 1 0 0 0] #[7] asg55 body55, .box 22 [.own 2 2 0 xs.length], .flat false 2 39 xs.length (vec api_Span.e api_Span.z xs), .box 39 [.d (.v (.int .i64 x.Lo)), .d (.v (.int .i64 x.Hi))], .flat false 2 39 1 (fun j => [api_Span.e x].getD j [])]⟩) (by kernel_rfl) ?_
  refine ak_append1 (id := 2) (kk := 2) (by' := 16) (t := 22) (e := 39) (z := [.int .i64 0, .int .i64 0]) (dst := some 11) (id2 := 4) (e2 := 39) (fz := false) (k' := stackAt body55 [0, 4] []) hT api_Span.e api_Span.z xs x [2, 11] (by kernel_rfl) (by kernel_rfl) (by kernel_rfl) (by kernel_rfl) (by kernel_rfl) (by kernel_rfl) (by kernel_rfl) hb (by omega)
    (st' := ⟨13, [(2, .ptr 1 0 0 0), (11, .own 5 2 0 (xs ++ [x]).length)], [.loop l .busy 55 13 [2] [.ptr 1 0 0 0] #[7] asg55 body55, .box 22 [.own 2 2 0 xs.length], .gone, .box 39 [.d (.v (.int .i64 x.Lo)), .d (.v (.int .i64 x.Hi))], .flat false 2 39 1 (fun j => [api_Span.e x].getD j []), .flat false 2 39 (xs ++ [x]).length (vec api_Span.e api_Span.z (xs ++ [x]))]⟩) (by kernel_rfl) ?_
  refine go hT 3 [] (k' := []) (st' := ⟨13, [], [.loop l .busy 55 13 [2] [.ptr 1 0 0 0] #[7] asg55 body55, .box 22 [.own 5 2 0 (xs ++ [x]).length], .gone, .box 39 [.d (.v (.int .i64 x.Lo)), .d (.v (.int .i64 x.Hi))], .flat false 2 39 1 (fun j => [api_Span.e x].getD j []), .flat false 2 39 (xs ++ [x]).length (vec api_Span.e api_Span.z (xs ++ [x]))]⟩) (by kernel_rfl) ?_
  refine ak_cut [] [0, 1, 2, 5] (st' := ⟨13, [], [.loop l .busy 55 13 [2] [.ptr 1 0 0 0] #[7] asg55 body55, .box 22 [.own 3 2 0 (xs ++ [x]).length], .gone, .flat false 2 39 (xs ++ [x]).length (vec api_Span.e api_Span.z (xs ++ [x]))]⟩) (by kernel_rfl) (by kernel_rfl) rfl (by decide) (by rw [h0]; rfl) ?_
  exact ak_roundEnd 0 rfl rfl (fun _ h => all_cons (.loop (.cons (.ptr _ _ _ _) .nil)) (fun _ h => all_cons (.box (.cons (.own _ _ _ _) .nil)) (fun _ h => all_cons .gone (fun _ h => all_cons (nr_vec api_Span.nl) (fun _ h => all_nil h) h) h) h) h)
theorem values52 {tg : Bool} (l : Nat) (xs : List api_Span) (hb : xs.length * 16 ≤ 140737488355328) :
    Says Try.prog 52 [.loop l .ready 55 13 [2] [.ptr 1 0 0 0] #[7] asg55 body55, .box 22 [.own 2 2 0 0], .flat false 2 39 0 (vec api_Span.e api_Span.z [])] [.d (.v (.func (.yield l) #[] #[])), .d (.rop false 1 (fun _ => [.sl tg xs.length (vec api_Span.e api_Span.z  xs)]) 0 0)]
      [.loop l .ready 55 13 [2] [.ptr 1 0 0 0] #[7] asg55 body55, .box 22 [.own 3 2 0 xs.length], .gone, .flat false 2 39 xs.length (vec api_Span.e api_Span.z xs)] (.tup []) := by
  refine says_of Try.func52 rfl (nt := 16) rfl (Nat.le_of_ble_eq_true rfl) fun X hP h0 hX => ?_
  have hT : TabOk X.P TI := hP ▸ tokI
  have hf : X.P.funcs[52]? = some Try.f52 := hP ▸ Try.func52
  refine go hT 8 [0, 5, 6, 7] (k' := stackAt (Try.f52.body.getD .skip) [1, 0, 0] []) (st' := ⟨16, [(0, .d (.v (.func (.yield l) #[] #[]))), (5, .d (.sl tg xs.length (vec api_Span.e api_Span.z xs))), (6, .d (.v (.int .i64 (xs.length : Int)))), (7, .d (.v (.int .i64 0)))], [.loop l .ready 55 13 [2] [.ptr 1 0 0 0] #[7] asg55 body55, .box 22 [.own 2 2 0 0], .flat false 2 39 0 (vec api_Span.e api_Span.z [])]⟩) (by kernel_rfl) ?_
  refine ak_dup 2 (r := .flat false 2 39 0 (vec api_Span.e api_Span.z [])) rfl rfl (st' := ⟨16, [(0, .d (.v (.func (.yield l) #[] #[]))), (5, .d (.sl tg xs.length (vec api_Span.e api_Span.z xs))), (6, .d (.v (.int .i64 (xs.length : Int)))), (7, .d (.v (.int .i64 0)))], [.loop l .ready 55 13 [2] [.ptr 1 0 0 0] #[7] asg55 body55, .box 22 [.own 3 2 0 0], .gone, .flat false 2 39 0 (vec api_Span.e api_Span.z [])]⟩) (by kernel_rfl) (by kernel_rfl) rfl ?_
  have L : ∀ m i : Nat, i + m = xs.length → AK X 52 (stackAt (Try.f52.body.getD .skip) [1, 0, 0] []) (Back X [.loop l .ready 55 13 [2] [.ptr 1 0 0 0] #[7] asg55 body55, .box 22 [.own 3 2 0 xs.length], .gone, .flat false 2 39 xs.length (vec api_Span.e api_Span.z xs)] (.tup [])) ⟨16, [(0, .d (.v (.func (.yield l) #[] #[]))), (5, .d (.sl tg xs.length (vec api_Span.e api_Span.z xs))), (6, .d (.v (.int .i64 (xs.length : Int)))), (7, .d (.v (.int .i64 (i : Int))))], [.loop l .ready 55 13 [2] [.ptr 1 0 0 0] #[7] asg55 body55, .box 22 [.own 3 2 0 (xs.take i).length], .gone, .flat false 2 39 (xs.take i).length (vec api_Span.e api_Span.z (xs.take i))]⟩ := by
    intro m
    induction m with
    | zero =>
      intro i hi
      refine go hT 5 [0, 5, 6, 7, 8] (k' := stackAt (Try.f52.body.getD .skip) [1, 0, 0, 1, 0] []) (st' := ⟨16, [(0, .d (.v (.func (.yield l) #[] #[]))), (5, .d (.sl tg xs.length (vec api_Span.e api_Span.z xs))), (6, .d (.v (.int .i64 (xs.length : Int)))), (7, .d (.v (.int .i64 (i : Int)))), (8, .d (.v (.bool (decide ((i : Int) < (xs.length : Int))))))], [.loop l .ready 55 13 [2] [.ptr 1 0 0 0] #[7] asg55 body55, .box 22 [.own 3 2 0 (xs.take i).length], .gone, .flat false 2 39 (xs.take i).length (vec api_Span.e api_Span.z (xs.take i))]⟩) (by kernel_rfl) ?_
      rw [decide_eq_false (show ¬ (i : Int) < (xs.length : Int) by omega)]
      have hx : xs.take i = xs := List.take_of_length_le (by omega)
      rw [hx]
      refine go hT 2 [] (k' := []) (st' := ⟨16, [], [.loop l .ready 55 13 [2] [.ptr 1 0 0 0] #[7] asg55 body55, .box 22 [.own 3 2 0 xs.length], .gone, .flat false 2 39 xs.length (vec api_Span.e api_Span.z xs)]⟩) (by kernel_rfl) ?_
      exact ak_end hf hX (av := .tup []) (by kernel_rfl) [0, 1, 2, 3] (sel_of_eq (by kernel_rfl)) (by decide) (by rw [h0]; rfl) (by kernel_rfl)
        (fun _ h => all_cons (.loop (.cons (.ptr _ _ _ _) .nil)) (fun _ h => all_cons (.box (.cons (.own _ _ _ _) .nil)) (fun _ h => all_cons .gone (fun _ h => all_cons (nr_vec api_Span.nl) (fun _ h => all_nil h) h) h) h) h) (.tup .nil)
    | succ m ih =>
      intro i hi
      have hlen : (xs.take i).length = i := by rw [List.length_take]; omega
      refine go hT 5 [0, 5, 6, 7, 8] (k' := stackAt (Try.f52.body.getD .skip) [1, 0, 0, 1, 0] []) (st' := ⟨16, [(0, .d (.v (.func (.yield l) #[] #[]))), (5, .d (.sl tg xs.length (vec api_Span.e api_Span.z xs))), (6, .d (.v (.int .i64 (xs.length : Int)))), (7, .d (.v (.int .i64 (i : Int)))), (8, .d (.v (.bool (decide ((i : Int) < (xs.length : Int))))))], [.loop l .ready 55 13 [2] [.ptr 1 0 0 0] #[7] asg55 body55, .box 22 [.own 3 2 0 (xs.take i).length], .gone, .flat false 2 39 (xs.take i).length (vec api_Span.e api_Span.z (xs.take i))]⟩) (by kernel_rfl) ?_
      rw [decide_eq_true (show (i : Int) < (xs.length : Int) by omega)]
      refine go hT 6 [0, 5, 6, 7] (k' := stackAt (Try.f52.body.getD .skip) [1, 0, 0, 1, 1, 0, 0, 0, 0] []) (st' := ⟨16, [(0, .d (.v (.func (.yield l) #[] #[]))), (5, .d (.sl tg xs.length (vec api_Span.e api_Span.z xs))), (6, .d (.v (.int .i64 (xs.length : Int)))), (7, .d (.v (.int .i64 (i : Int))))], [.loop l .ready 55 13 [2] [.ptr 1 0 0 0] #[7] asg55 body55, .box 22 [.own 3 2 0 (xs.take i).length], .gone, .flat false 2 39 (xs.take i).length (vec api_Span.e api_Span.z (xs.take i))]⟩) (by kernel_rfl) ?_
      refine ak_idx hT [0, 5, 6, 7, 9] (i := (i : Int)) (n := (xs.length : Int)) (by omega) (by omega) (k' := stackAt (Try.f52.body.getD .skip) [1, 0, 0, 1, 1, 0, 0, 0, 1] []) (st' := ⟨16, [(0, .d (.v (.func (.yield l) #[] #[]))), (5, .d (.sl tg xs.length (vec api_Span.e api_Span.z xs))), (6, .d (.v (.int .i64 (xs.length : Int)))), (7, .d (.v (.int .i64 (i : Int)))), (9, .d (.rop tg xs.length (vec api_Span.e api_Span.z  xs) (i : Int).toNat 0))], [.loop l .ready 55 13 [2] [.ptr 1 0 0 0] #[7] asg55 body55, .box 22 [.own 3 2 0 (xs.take i).length], .gone, .flat false 2 39 (xs.take i).length (vec api_Span.e api_Span.z (xs.take i))]⟩) (by kernel_rfl) ?_
      refine go hT 8 [0, 5, 6, 7, 11, 12] (k' := stackAt (Try.f52.body.getD .skip) [1, 0, 0, 1, 1, 0, 0, 1, 0, 2] []) (st' := ⟨16, [(0, .d (.v (.func (.yield l) #[] #[]))), (5, .d (.sl tg xs.length (vec api_Span.e api_Span.z xs))), (6, .d (.v (.int .i64 (xs.length : Int)))), (7, .d (.v (.int .i64 (i : Int)))), (11, .d (.v (.func (.yield l) #[] #[]))), (12, .d (.agg (api_Span.e (xs.getD (i : Int).toNat api_Span.z))))], [.loop l .ready 55 13 [2] [.ptr 1 0 0 0] #[7] asg55 body55, .box 22 [.own 3 2 0 (xs.take i).length], .gone, .flat false 2 39 (xs.take i).length (vec api_Span.e api_Span.z (xs.take i)), .box 39 [.d (.v (.int .i64 (xs.getD (i : Int).toNat api_Span.z).Lo)), .d (.v (.int .i64 (xs.getD (i : Int).toNat api_Span.z).Hi))]]⟩) (by kernel_rfl) ?_
      refine ak_yield (av := .d (.agg (api_Span.e (xs.getD (i : Int).toNat api_Span.z)))) (dst := some 13) (k' := stackAt (Try.f52.body.getD .skip) [1, 0, 0, 1, 1, 0, 0, 1, 0, 3] []) [0, 5, 6, 7, 13] [0, 1, 3] hP (round55 l (xs.take i) (xs.getD (i : Int).toNat api_Span.z) (by rw [hlen]; omega)) (by kernel_rfl) (hands_three rfl rfl rfl (by decide)) (.cons (pass_d _) .nil)
        (st' := ⟨16, [(0, .d (.v (.func (.yield l) #[] #[]))), (5, .d (.sl tg xs.length (vec api_Span.e api_Span.z xs))), (6, .d (.v (.int .i64 (xs.length : Int)))), (7, .d (.v (.int .i64 (i : Int)))), (13, .d (.v (.bool true)))], [.loop l .ready 55 13 [2] [.ptr 1 0 0 0] #[7] asg55 body55, .box 22 [.own 5 2 0 (xs.take i ++ [(xs.getD (i : Int).toNat api_Span.z)]).length], .gone, .gone, .box 39 [.d (.v (.int .i64 (xs.getD (i : Int).toNat api_Span.z).Lo)), .d (.v (.int .i64 (xs.getD (i : Int).toNat api_Span.z).Hi))], .flat false 2 39 (xs.take i ++ [(xs.getD (i : Int).toNat api_Span.z)]).length (vec api_Span.e api_Span.z (xs.take i ++ [(xs.getD (i : Int).toNat api_Span.z)]))]⟩) (by kernel_rfl) ?_
      refine go hT 10 [0, 5, 6, 7] (k' := stackAt (Try.f52.body.getD .skip) [1, 0, 0] []) (st' := ⟨16, [(0, .d (.v (.func (.yield l) #[] #[]))), (5, .d (.sl tg xs.length (vec api_Span.e api_Span.z xs))), (6, .d (.v (.int .i64 (xs.length : Int)))), (7, .d (.v (.int .i64 (IntKind.wrap .i64 ((i : Int) + 1)))))], [.loop l .ready 55 13 [2] [.ptr 1 0 0 0] #[7] asg55 body55, .box 22 [.own 5 2 0 (xs.take i ++ [(xs.getD (i : Int).toNat api_Span.z)]).length], .gone, .gone, .box 39 [.d (.v (.int .i64 (xs.getD (i : Int).toNat api_Span.z).Lo)), .d (.v (.int .i64 (xs.getD (i : Int).toNat api_Span.z).Hi))], .flat false 2 39 (xs.take i ++ [(xs.getD (i : Int).toNat api_Span.z)]).length (vec api_Span.e api_Span.z (xs.take i ++ [(xs.getD (i : Int).toNat api_Span.z)]))]⟩) (by kernel_rfl) ?_
      have hw : IntKind.wrap .i64 ((i : Int) + 1) = ((i + 1 : Nat) : Int) := by simp [IntKind.wrap, IntKind.bits, IntKind.signed]; omega
      have ht : xs.take i ++ [(xs.getD (i : Int).toNat api_Span.z)] = xs.take (i + 1) := by
        rw [List.take_add_one]
        simp [show i < xs.length by omega]
      rw [hw, ht]
      refine ak_cut [0, 5, 6, 7] [0, 1, 2, 5] (st' := ⟨16, [(0, .d (.v (.func (.yield l) #[] #[]))), (5, .d (.sl tg xs.length (vec api_Span.e api_Span.z xs))), (6, .d (.v (.int .i64 (xs.length : Int)))), (7, .d (.v (.int .i64 ((i + 1 : Nat) : Int))))], [.loop l .ready 55 13 [2] [.ptr 1 0 0 0] #[7] asg55 body55, .box 22 [.own 3 2 0 (xs.take (i + 1)).length], .gone, .flat false 2 39 (xs.take (i + 1)).length (vec api_Span.e api_Span.z (xs.take (i + 1)))]⟩) (by kernel_rfl) (by kernel_rfl) rfl (by decide) (by rw [h0]; rfl) ?_
      exact ih (i + 1) (by omega)
  exact L xs.length 0 (by omega)
theorem appendSeq55 {tg : Bool} (xs : List api_Span) (hb : xs.length * 16 ≤ 140737488355328) :
    Says Try.prog 55 [] [.d (.v (.slice none 0 0)), .d (.fn 52 [.rop false 1 (fun _ => [.sl tg xs.length (vec api_Span.e api_Span.z xs)]) 0 0])] [.flat false 2 39 xs.length (vec api_Span.e api_Span.z  xs)] (.own 0 2 0 xs.length) := by
  refine says_of Try.func55 rfl (nt := 13) rfl (Nat.le_of_ble_eq_true rfl) fun X hP h0 hX => ?_
  have hT : TabOk X.P TI := hP ▸ tokI
  have hf : X.P.funcs[55]? = some Try.f55 := hP ▸ Try.func55
  refine ak_nilS [0, 1] 0 2 39 (vec api_Span.e api_Span.z []) (st' := ⟨13, [(0, .own 0 2 0 0), (1, .d (.fn 52 [.rop false 1 (fun _ => [.sl tg xs.length (vec api_Span.e api_Span.z xs)]) 0 0]))], [.flat false 2 39 0 (vec api_Span.e api_Span.z [])]⟩) (by kernel_rfl) (by kernel_rfl) ?_
  refine go hT 11 [2, 6] (k' := stackAt (Try.f55.body.getD .skip) [1, 0, 1, 0] []) (st' := ⟨13, [(2, .ptr 1 0 0 0), (6, .d (.fn 52 [.rop false 1 (fun _ => [.sl tg xs.length (vec api_Span.e api_Span.z xs)]) 0 0]))], [.flat false 2 39 0 (vec api_Span.e api_Span.z []), .box 22 [.own 0 2 0 0]]⟩) (by kernel_rfl) ?_
  refine ak_cut [2, 6] [1, 0] (st' := ⟨13, [(2, .ptr 0 0 0 0), (6, .d (.fn 52 [.rop false 1 (fun _ => [.sl tg xs.length (vec api_Span.e api_Span.z xs)]) 0 0]))], [.box 22 [.own 1 2 0 0], .flat false 2 39 0 (vec api_Span.e api_Span.z [])]⟩) (by kernel_rfl) (by kernel_rfl) rfl (by decide) (by rw [h0]; rfl) ?_
  refine ak_rangeFunc (P := Try.prog) (f := 55) (g := 52) (fop := .tmp 6) (p := 7) (asg := asg55) (body := body55) (k := [.inBlock 0, .code (tail55)]) (caps := [.rop false 1 (fun _ => [.sl tg xs.length (vec api_Span.e api_Span.z xs)]) 0 0]) (ret := .tup []) [2] [.ptr 0 0 0 0] [.ptr 0 0 0 0] [3, 0, 1]
    (fun l => [.loop l .ready 55 13 [2] [.ptr 1 0 0 0] #[7] asg55 body55, .box 22 [.own 2 2 0 0], .flat false 2 39 0 (vec api_Span.e api_Span.z [])]) (fun l => [.loop l .ready 55 13 [2] [.ptr 1 0 0 0] #[7] asg55 body55, .box 22 [.own 3 2 0 xs.length], .gone, .flat false 2 39 xs.length (vec api_Span.e api_Span.z  xs)]) (fun l => [.d (.v (.func (.yield l) #[] #[])), .d (.rop false 1 (fun _ => [.sl tg xs.length (vec api_Span.e api_Span.z xs)]) 0 0)])
    hP hX (by kernel_rfl) enters_52 (by kernel_rfl) (fun l => values52 l xs hb) (fun D => hands_three rfl rfl rfl (by decide)) (fun D => .cons (pass_d _) (.cons (pass_d _) .nil)) (fun D => by kernel_rfl) fun D => ?_
  have hT2 : TabOk (X.mark D).P TI := hT
  refine go hT2 6 [4] (k' := [.code .ret]) (st' := ⟨13, [(4, .own 4 2 0 xs.length)], [.box 22 [.own 4 2 0 xs.length], .gone, .dfr D, .gone, .flat false 2 39 xs.length (vec api_Span.e api_Span.z  xs)]⟩) (by kernel_rfl) ?_
  have fin := ak_retD (X := X.mark D) (f := 55) (k := []) (ret := .own 0 2 0 xs.length) (rowsOut := [.flat false 2 39 xs.length (vec api_Span.e api_Span.z xs)]) (st := ⟨13, [(4, .own 4 2 0 xs.length)], [.box 22 [.own 4 2 0 xs.length], .gone, .dfr D, .gone, .flat false 2 39 xs.length (vec api_Span.e api_Span.z xs)]⟩) 2 hf ⟨rfl, rfl⟩ (by kernel_rfl) (av := .own 4 2 0 xs.length) (by kernel_rfl) [4] (by decide) (sel_of_eq (by kernel_rfl)) (by decide) (by have h1 : (X.mark D).μ0.length = 0 := h0; rw [h1]; rfl) (by kernel_rfl) (fun _ h => all_cons (nr_vec api_Span.nl) (fun _ h => all_nil h) h) (.own _ _ _ _)
  rw [mark_plain D hX] at fin
  exact fin
theorem collect50 {tg : Bool} (xs : List api_Span) (hb : xs.length * 16 ≤ 140737488355328) :
    Says Try.prog 50 [] [.d (.fn 52 [.rop false 1 (fun _ => [.sl tg xs.length (vec api_Span.e api_Span.z xs)]) 0 0])] [.flat false 2 39 xs.length (vec api_Span.e api_Span.z  xs)] (.own 0 2 0 xs.length) := by
  refine says_of Try.func50 rfl (nt := 5) rfl (Nat.le_of_ble_eq_true rfl) fun X hP h0 hX => ?_
  have hT : TabOk X.P TI := hP ▸ tokI
  have hf : X.P.funcs[50]? = some Try.f50 := hP ▸ Try.func50
  refine go hT 7 [3] (k' := stackAt (Try.f50.body.getD .skip) [1, 0, 1] []) (st' := ⟨5, [(3, .d (.fn 52 [.rop false 1 (fun _ => [.sl tg xs.length (vec api_Span.e api_Span.z xs)]) 0 0]))], []⟩) (by kernel_rfl) ?_
  refine ak_callP (avs := [.d (.v (.slice none 0 0)), .d (.fn 52 [.rop false 1 (fun _ => [.sl tg xs.length (vec api_Span.e api_Span.z xs)]) 0 0])]) (dst := some 4) (k' := stackAt (Try.f50.body.getD .skip) [1, 0, 2] []) [4] [] hP enters_55 (appendSeq55 (tg := tg) xs hb) (by kernel_rfl) (hands_none _) (.cons (pass_d _) (.cons (pass_d _) .nil))
    (st' := ⟨5, [(4, .own 0 2 0 xs.length)], [.flat false 2 39 xs.length (vec api_Span.e api_Span.z  xs)]⟩) (by kernel_rfl) ?_
  refine go hT 2 [2] (k' := stackAt (Try.f50.body.getD .skip) [1, 1] []) (st' := ⟨5, [(2, .own 0 2 0 xs.length)], [.flat false 2 39 xs.length (vec api_Span.e api_Span.z  xs)]⟩) (by kernel_rfl) ?_
  exact ak_ret hf hX (av := .own 0 2 0 xs.length) (by kernel_rfl) [0] (sel_of_eq (by kernel_rfl)) (by decide) (by rw [h0]; rfl) (by kernel_rfl) (fun _ h => all_cons (nr_vec api_Span.nl) (fun _ h => all_nil h) h) (.own _ _ _ _)

open Go.Sort in
theorem sort51 {g : FuncId} (eg : Sy.Enters Try.prog g) (cf : api_Span → api_Span → Int) (hO : SWO (ltOf cf))
    (hs : ∀ x y, Says Try.prog g [] [.d (.agg (api_Span.e x)), .d (.agg (api_Span.e y))] [] (.d (.v (.int .i64 (cf x y))))) (xs : List api_Span) (hb : xs.length * 16 ≤ 140737488355328) :
    Says Try.prog 51 [.flat false 2 39 xs.length (vec api_Span.e api_Span.z xs)] [.own 0 2 0 xs.length, .d (.fn g [])] [.flat false 2 39 xs.length (vec api_Span.e api_Span.z (sortL api_Span.z cf xs))] (.tup []) :=
  sort_saysN Try.sortIv api_Span.z 2 Try.isAgg39 Try.sizeOf39 (fun x => [.int .i64 x.Lo, .int .i64 x.Hi]) (fun _ => rfl) (fun x v hv => by
    simp only [List.mem_cons, List.not_mem_nil, or_false] at hv
    rcases hv with rfl | rfl <;> rfl) api_Span.e (fun _ => rfl) cf hO g eg (cmp_calls (fun x v hv => by
    simp only [List.mem_cons, List.not_mem_nil, or_false] at hv
    rcases hv with rfl | rfl <;> rfl) (fun _ => rfl) hs) (by omega)


open Go.Sort in
theorem sortedFunc37' {tg : Bool} {g : FuncId} (eg : Sy.Enters Try.prog g) (cf : api_Span → api_Span → Int) (hO : SWO (ltOf cf))
    (hs : ∀ x y, Says Try.prog g [] [.d (.agg (api_Span.e x)), .d (.agg (api_Span.e y))] [] (.d (.v (.int .i64 (cf x y))))) (xs : List api_Span) (hb : xs.length * 16 ≤ 140737488355328) :
    Says Try.prog 37 [] [.d (.fn 52 [.rop false 1 (fun _ => [.sl tg xs.length (vec api_Span.e api_Span.z xs)]) 0 0]), .d (.fn g [])] [.flat false 2 39 xs.length (vec api_Span.e api_Span.z (sortL api_Span.z cf xs))] (.own 0 2 0 xs.length) := by
  refine says_of Try.func37 rfl (nt := 12) rfl (Nat.le_of_ble_eq_true rfl) fun X hP h0 hX => ?_
  have hT : TabOk X.P TI := hP ▸ tokI
  have hf : X.P.funcs[37]? = some Try.f37 := hP ▸ Try.func37
  refine go hT 7 [1, 6] (k' := stackAt (Try.f37.body.getD .skip) [1, 0, 1] []) (st' := ⟨12, [(1, .d (.fn g [])), (6, .d (.fn 52 [.rop false 1 (fun _ => [.sl tg xs.length (vec api_Span.e api_Span.z xs)]) 0 0]))], []⟩) (by kernel_rfl) ?_
  refine ak_callP (avs := [.d (.fn 52 [.rop false 1 (fun _ => [.sl tg xs.length (vec api_Span.e api_Span.z xs)]) 0 0])]) (dst := some 7) (k' := stackAt (Try.f37.body.getD .skip) [1, 0, 2] []) [1, 7] [] hP enters_50 (collect50 (tg := tg) xs hb) (by kernel_rfl) (hands_none _) (.cons (pass_d _) .nil)
    (st' := ⟨12, [(1, .d (.fn g [])), (7, .own 0 2 0 xs.length)], [.flat false 2 39 xs.length (vec api_Span.e api_Span.z xs)]⟩) (by kernel_rfl) ?_
  refine go hT 6 [5, 8, 9] (k' := stackAt (Try.f37.body.getD .skip) [1, 1, 0, 2] []) (st' := ⟨12, [(5, .own 0 2 0 xs.length), (8, .own 0 2 0 xs.length), (9, .d (.fn g []))], [.flat false 2 39 xs.length (vec api_Span.e api_Span.z xs)]⟩) (by kernel_rfl) ?_
  refine ak_callP (avs := [.own 0 2 0 xs.length, .d (.fn g [])]) (dst := some 10) (k' := stackAt (Try.f37.body.getD .skip) [1, 1, 0, 3] []) [5] [0] hP enters_51 (sort51 eg cf hO hs xs hb) (by kernel_rfl) (hands_one rfl rfl) (.cons (.same (.own 0 2 0 xs.length)) (.cons (pass_d _) .nil))
    (st' := ⟨12, [(5, .own 0 2 0 xs.length)], [.flat false 2 39 xs.length (vec api_Span.e api_Span.z (sortL api_Span.z cf xs))]⟩) (by kernel_rfl) ?_
  refine go hT 6 [4] (k' := stackAt (Try.f37.body.getD .skip) [1, 1, 1, 1] []) (st' := ⟨12, [(4, .own 0 2 0 xs.length)], [.flat false 2 39 xs.length (vec api_Span.e api_Span.z (sortL api_Span.z cf xs))]⟩) (by kernel_rfl) ?_
  exact ak_ret hf hX (av := .own 0 2 0 xs.length) (by kernel_rfl) [0] (sel_of_eq (by kernel_rfl)) (by decide) (by rw [h0]; rfl) (by kernel_rfl) (fun _ h => all_cons (nr_vec api_Span.nl) (fun _ h => all_nil h) h) (.own _ _ _ _)

open Go.Sort in
theorem sortedFunc37 {tg : Bool} {g : FuncId} (eg : Sy.Enters Try.prog g) (cf : api_Span → api_Span → Int) (hO : SWO (ltOf cf))
    (hs : ∀ x y, Says Try.prog g [] [.d (.agg (api_Span.e x)), .d (.agg (api_Span.e y))] [] (.d (.v (.int .i64 (cf x y))))) (xs : List api_Span) (hb : xs.length * 16 ≤ 140737488355328) :
    Says Try.prog 37 [] [.d (.fn 52 [.rop false 1 (fun _ => [.sl tg xs.length (vec api_Span.e api_Span.z xs)]) 0 0]), .d (.fn g [])] [.flat false 2 39 (sortL api_Span.z cf xs).length (vec api_Span.e api_Span.z (sortL api_Span.z cf xs))] (.own 0 2 0 (sortL api_Span.z cf xs).length) := by
  have h := sortedFunc37' (tg := tg) eg cf hO hs xs hb
  have : ∀ n, n = xs.length → Says Try.prog 37 [] [.d (.fn 52 [.rop false 1 (fun _ => [.sl tg xs.length (vec api_Span.e api_Span.z xs)]) 0 0]), .d (.fn g [])] [.flat false 2 39 n (vec api_Span.e api_Span.z (sortL api_Span.z cf xs))] (.own 0 2 0 n) := fun n hn => by
    subst hn
    exact h
  exact this _ (sortL_length _ hO xs)

theorem values38 (xs : List api_Span) :
    Says Try.prog 38 [] [.d (.sl true xs.length (vec api_Span.e api_Span.z xs))] [.box 22 [.d (.sl true xs.length (vec api_Span.e api_Span.z xs))]] (.fn 52 [.ptr 0 0 0 0]) := by
  refine says_of Try.func38 rfl (nt := 4) rfl (Nat.le_of_ble_eq_true rfl) fun X hP h0 hX => ?_
  have hT : TabOk X.P TI := hP ▸ tokI
  have hf : X.P.funcs[38]? = some Try.f38 := hP ▸ Try.func38
  refine go hT 10 [2] (k' := stackAt (Try.f38.body.getD .skip) [1, 1] []) (st' := ⟨4, [(2, .fn 52 [.ptr 0 0 0 0])], [.box 22 [.d (.sl true xs.length (vec api_Span.e api_Span.z xs))]]⟩) (by kernel_rfl) ?_
  exact ak_ret hf hX (av := .fn 52 [.ptr 0 0 0 0]) (by kernel_rfl) [0] (sel_of_eq (by kernel_rfl)) (by decide) (by rw [h0]; rfl) (by kernel_rfl) (fun _ h => all_cons (.box (.cons (.d (.sl fun _ _ => api_Span.nl _)) .nil)) (fun _ h => all_nil h) h) (.fn (.cons (.ptr _ _ _ _) .nil))

theorem grow54 (n : Int) (h : 0 ≤ n ∧ n * 16 ≤ 140737488355328) : Says Try.prog 54 [] [.d (.v (.slice none 0 0)), .d (.v (.int .i64 n))] [.flat false 2 39 ([] : List api_Span).length (vec api_Span.e api_Span.z [])] (.own 0 2 0 ([] : List api_Span).length) :=
  grow_says Try.growIv api_Span.z api_Span.e 2 Try.t39 _ (by kernel_rfl) rfl (by decide) rfl rfl rfl api_Span.nl n h.1 h.2 (by omega)
end Go.SyP
