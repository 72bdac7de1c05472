/- Hold: the items of a queue, sorted. -/
import Derived.Test.YtboaahlhgekbbaaG06C
import Derived.Test.YtboaahlhgekbbaaG06K
import Derived.Test.YtboaahlhgekbbaaG06S
import Derived.Test.YtboaahlhgekbbaaSyX
import Derived.Test.YtboaahlhgekbbaaSyS
import Derived.Test.YtboaahlhgekbbaaSyU
set_option linter.unusedVariables false
set_option linter.unusedSimpArgs false
namespace Go.SyP
open Go Go.Sy Go.Proofs Go.Lib Go.RowKit

def TJ : Tab where
  info := [(3, 1, 8, [.int .i64 0]), (82, 1, 24, [.slice none 0 0]), (89, 1, 8, [.pointer none]), (108, 1, 8, [.nilFunc])]
  aggs := [(3, false), (82, false), (89, false), (108, false)]
  slices := [(82, 89)]
  bools := []
theorem tokJ : TabOk Try.prog TJ := ⟨by kernel_rfl, by kernel_rfl, by kernel_rfl, by kernel_rfl, by kernel_rfl, by kernel_rfl, by kernel_rfl, by kernel_rfl, by kernel_rfl, by kernel_rfl, by kernel_rfl, by kernel_rfl⟩
theorem enters_58 : Sy.Enters Try.prog 58 := enters_fn Try.func58 (by kernel_rfl) (by kernel_rfl)
theorem enters_69 : Sy.Enters Try.prog 69 := enters_fn Try.func69 (by kernel_rfl) (by kernel_rfl)
theorem enters_59 : Sy.Enters Try.prog 59 := enters_fn Try.func59 (by kernel_rfl) (by kernel_rfl)
theorem enters_57 : Sy.Enters Try.prog 57 := enters_fn Try.func57 (by kernel_rfl) (by kernel_rfl)
theorem enters_60 : Sy.Enters Try.prog 60 := enters_fn Try.func60 (by kernel_rfl) (by kernel_rfl)
def rAsg : List Item → Code
  | .code (.rangeFunc _ _ a _) :: _ => a
  | _ => .skip
def rBody : List Item → Code
  | .code (.rangeFunc _ _ _ b) :: _ => b
  | _ => .skip
noncomputable def asg69 : Code := rAsg (stackAt (Try.f69.body.getD .skip) [1, 0, 1, 0] [])
noncomputable def body69 : Code := rBody (stackAt (Try.f69.body.getD .skip) [1, 0, 1, 0] [])

def rTail : List Item → Code
  | _ :: _ :: .code c :: _ => c
  | _ => .skip
noncomputable def tail69 : Code := rTail (stackAt (Try.f69.body.getD .skip) [1, 0, 1, 0] [])


theorem round69 (l : Nat) (xs : List Nat) (x : Nat) (hb : (xs.length + 1) * 8 ≤ 140737488355328) :
    RoundSays Try.prog l [.loop l .ready 69 13 [2] [.ptr 1 0 0 0] #[7] asg69 body69, .box 82 [.own 2 1 0 xs.length], .flat false 1 89 xs.length (vec eA 0 xs)] (.d (pA x 0))
      [.loop l .ready 69 13 [2] [.ptr 1 0 0 0] #[7] asg69 body69, .box 82 [.own 3 1 0 (xs ++ [x]).length], .gone, .flat false 1 89 (xs ++ [x]).length (vec eA 0 (xs ++ [x]))] := by
  refine round_says (by decide) fun X hP h0 hX => ?_
  have hT : TabOk X.P TJ := hP ▸ tokJ
  refine go hT 3 [2, 5] (k' := [.beginRound, .code body69]) (st' := ⟨13, [(2, .ptr 1 0 0 0), (5, .d (pA x 0))], [.loop l .ready 69 13 [2] [.ptr 1 0 0 0] #[7] asg69 body69, .box 82 [.own 2 1 0 xs.length], .flat false 1 89 xs.length (vec eA 0 xs)]⟩) (by kernel_rfl) ?_
  refine ak_begin (st' := ⟨13, [(2, .ptr 1 0 0 0), (5, .d (pA x 0))], [.loop l .busy 69 13 [2] [.ptr 1 0 0 0] #[7] asg69 body69, .box 82 [.own 2 1 0 xs.length], .flat false 1 89 xs.length (vec eA 0 xs)]⟩) 0 hX rfl rfl ?_
  refine go hT 5 [2, 8, 10] (k' := stackAt body69 [0, 3] []) (st' := ⟨13, [(2, .ptr 1 0 0 0), (8, .own 2 1 0 xs.length), (10, .own 3 1 0 1)], [.loop l .busy 69 13 [2] [.ptr 1 0 0 0] #[7] asg69 body69, .box 82 [.own 2 1 0 xs.length], .flat false 1 89 xs.length (vec eA 0 xs), .flat false 1 89 1 (fun j => [eA x].getD j [])]⟩) (by kernel_rfl) ?_
  refine ak_append1 (id := 2) (kk := 1) (by' := 8) (t := 82) (e := 89) (z := [.pointer none]) (dst := some 11) (id2 := 3) (e2 := 89) (fz := false) (k' := stackAt body69 [0, 4] []) hT eA 0 xs x [2, 11] (by kernel_rfl) (by kernel_rfl) (by kernel_rfl) (by kernel_rfl) (by kernel_rfl) (by kernel_rfl) (by kernel_rfl) hb (by omega)
    (st' := ⟨13, [(2, .ptr 1 0 0 0), (11, .own 4 1 0 (xs ++ [x]).length)], [.loop l .busy 69 13 [2] [.ptr 1 0 0 0] #[7] asg69 body69, .box 82 [.own 2 1 0 xs.length], .gone, .flat false 1 89 1 (fun j => [eA x].getD j []), .flat false 1 89 (xs ++ [x]).length (vec eA 0 (xs ++ [x]))]⟩) (by kernel_rfl) ?_
  refine go hT 3 [] (k' := []) (st' := ⟨13, [], [.loop l .busy 69 13 [2] [.ptr 1 0 0 0] #[7] asg69 body69, .box 82 [.own 4 1 0 (xs ++ [x]).length], .gone, .flat false 1 89 1 (fun j => [eA x].getD j []), .flat false 1 89 (xs ++ [x]).length (vec eA 0 (xs ++ [x]))]⟩) (by kernel_rfl) ?_
  refine ak_cut [] [0, 1, 2, 4] (st' := ⟨13, [], [.loop l .busy 69 13 [2] [.ptr 1 0 0 0] #[7] asg69 body69, .box 82 [.own 3 1 0 (xs ++ [x]).length], .gone, .flat false 1 89 (xs ++ [x]).length (vec eA 0 (xs ++ [x]))]⟩) (by kernel_rfl) (by kernel_rfl) rfl (by decide) (by rw [h0]; rfl) ?_
  exact ak_roundEnd 0 rfl rfl (fun _ h => all_cons (.loop (.cons (.ptr _ _ _ _) .nil)) (fun _ h => all_cons (.box (.cons (.own _ _ _ _) .nil)) (fun _ h => all_cons .gone (fun _ h => all_cons (nr_vec nlA) (fun _ h => all_nil h) h) h) h) h)
theorem values59 {tg : Bool} (l : Nat) (xs : List Nat) (hb : xs.length * 8 ≤ 140737488355328) :
    Says Try.prog 59 [.loop l .ready 69 13 [2] [.ptr 1 0 0 0] #[7] asg69 body69, .box 82 [.own 2 1 0 0], .flat false 1 89 0 (vec eA 0 [])] [.d (.v (.func (.yield l) #[] #[])), .d (.rop false 1 (fun _ => [.sl tg xs.length (vec eA 0  xs)]) 0 0)]
      [.loop l .ready 69 13 [2] [.ptr 1 0 0 0] #[7] asg69 body69, .box 82 [.own 3 1 0 xs.length], .gone, .flat false 1 89 xs.length (vec eA 0 xs)] (.tup []) := by
  refine says_of Try.func59 rfl (nt := 16) rfl (Nat.le_of_ble_eq_true rfl) fun X hP h0 hX => ?_
  have hT : TabOk X.P TJ := hP ▸ tokJ
  have hf : X.P.funcs[59]? = some Try.f59 := hP ▸ Try.func59
  refine go hT 8 [0, 5, 6, 7] (k' := stackAt (Try.f59.body.getD .skip) [1, 0, 0] []) (st' := ⟨16, [(0, .d (.v (.func (.yield l) #[] #[]))), (5, .d (.sl tg xs.length (vec eA 0 xs))), (6, .d (.v (.int .i64 (xs.length : Int)))), (7, .d (.v (.int .i64 0)))], [.loop l .ready 69 13 [2] [.ptr 1 0 0 0] #[7] asg69 body69, .box 82 [.own 2 1 0 0], .flat false 1 89 0 (vec eA 0 [])]⟩) (by kernel_rfl) ?_
  refine ak_dup 2 (r := .flat false 1 89 0 (vec eA 0 [])) rfl rfl (st' := ⟨16, [(0, .d (.v (.func (.yield l) #[] #[]))), (5, .d (.sl tg xs.length (vec eA 0 xs))), (6, .d (.v (.int .i64 (xs.length : Int)))), (7, .d (.v (.int .i64 0)))], [.loop l .ready 69 13 [2] [.ptr 1 0 0 0] #[7] asg69 body69, .box 82 [.own 3 1 0 0], .gone, .flat false 1 89 0 (vec eA 0 [])]⟩) (by kernel_rfl) (by kernel_rfl) rfl ?_
  have L : ∀ m i : Nat, i + m = xs.length → AK X 59 (stackAt (Try.f59.body.getD .skip) [1, 0, 0] []) (Back X [.loop l .ready 69 13 [2] [.ptr 1 0 0 0] #[7] asg69 body69, .box 82 [.own 3 1 0 xs.length], .gone, .flat false 1 89 xs.length (vec eA 0 xs)] (.tup [])) ⟨16, [(0, .d (.v (.func (.yield l) #[] #[]))), (5, .d (.sl tg xs.length (vec eA 0 xs))), (6, .d (.v (.int .i64 (xs.length : Int)))), (7, .d (.v (.int .i64 (i : Int))))], [.loop l .ready 69 13 [2] [.ptr 1 0 0 0] #[7] asg69 body69, .box 82 [.own 3 1 0 (xs.take i).length], .gone, .flat false 1 89 (xs.take i).length (vec eA 0 (xs.take i))]⟩ := by
    intro m
    induction m with
    | zero =>
      intro i hi
      refine go hT 5 [0, 5, 6, 7, 8] (k' := stackAt (Try.f59.body.getD .skip) [1, 0, 0, 1, 0] []) (st' := ⟨16, [(0, .d (.v (.func (.yield l) #[] #[]))), (5, .d (.sl tg xs.length (vec eA 0 xs))), (6, .d (.v (.int .i64 (xs.length : Int)))), (7, .d (.v (.int .i64 (i : Int)))), (8, .d (.v (.bool (decide ((i : Int) < (xs.length : Int))))))], [.loop l .ready 69 13 [2] [.ptr 1 0 0 0] #[7] asg69 body69, .box 82 [.own 3 1 0 (xs.take i).length], .gone, .flat false 1 89 (xs.take i).length (vec eA 0 (xs.take i))]⟩) (by kernel_rfl) ?_
      rw [decide_eq_false (show ¬ (i : Int) < (xs.length : Int) by omega)]
      have hx : xs.take i = xs := List.take_of_length_le (by omega)
      rw [hx]
      refine go hT 2 [] (k' := []) (st' := ⟨16, [], [.loop l .ready 69 13 [2] [.ptr 1 0 0 0] #[7] asg69 body69, .box 82 [.own 3 1 0 xs.length], .gone, .flat false 1 89 xs.length (vec eA 0 xs)]⟩) (by kernel_rfl) ?_
      exact ak_end hf hX (av := .tup []) (by kernel_rfl) [0, 1, 2, 3] (sel_of_eq (by kernel_rfl)) (by decide) (by rw [h0]; rfl) (by kernel_rfl)
        (fun _ h => all_cons (.loop (.cons (.ptr _ _ _ _) .nil)) (fun _ h => all_cons (.box (.cons (.own _ _ _ _) .nil)) (fun _ h => all_cons .gone (fun _ h => all_cons (nr_vec nlA) (fun _ h => all_nil h) h) h) h) h) (.tup .nil)
    | succ m ih =>
      intro i hi
      have hlen : (xs.take i).length = i := by rw [List.length_take]; omega
      refine go hT 5 [0, 5, 6, 7, 8] (k' := stackAt (Try.f59.body.getD .skip) [1, 0, 0, 1, 0] []) (st' := ⟨16, [(0, .d (.v (.func (.yield l) #[] #[]))), (5, .d (.sl tg xs.length (vec eA 0 xs))), (6, .d (.v (.int .i64 (xs.length : Int)))), (7, .d (.v (.int .i64 (i : Int)))), (8, .d (.v (.bool (decide ((i : Int) < (xs.length : Int))))))], [.loop l .ready 69 13 [2] [.ptr 1 0 0 0] #[7] asg69 body69, .box 82 [.own 3 1 0 (xs.take i).length], .gone, .flat false 1 89 (xs.take i).length (vec eA 0 (xs.take i))]⟩) (by kernel_rfl) ?_
      rw [decide_eq_true (show (i : Int) < (xs.length : Int) by omega)]
      refine go hT 6 [0, 5, 6, 7] (k' := stackAt (Try.f59.body.getD .skip) [1, 0, 0, 1, 1, 0, 0, 0, 0] []) (st' := ⟨16, [(0, .d (.v (.func (.yield l) #[] #[]))), (5, .d (.sl tg xs.length (vec eA 0 xs))), (6, .d (.v (.int .i64 (xs.length : Int)))), (7, .d (.v (.int .i64 (i : Int))))], [.loop l .ready 69 13 [2] [.ptr 1 0 0 0] #[7] asg69 body69, .box 82 [.own 3 1 0 (xs.take i).length], .gone, .flat false 1 89 (xs.take i).length (vec eA 0 (xs.take i))]⟩) (by kernel_rfl) ?_
      refine ak_idx hT [0, 5, 6, 7, 9] (i := (i : Int)) (n := (xs.length : Int)) (by omega) (by omega) (k' := stackAt (Try.f59.body.getD .skip) [1, 0, 0, 1, 1, 0, 0, 0, 1] []) (st' := ⟨16, [(0, .d (.v (.func (.yield l) #[] #[]))), (5, .d (.sl tg xs.length (vec eA 0 xs))), (6, .d (.v (.int .i64 (xs.length : Int)))), (7, .d (.v (.int .i64 (i : Int)))), (9, .d (.rop tg xs.length (vec eA 0  xs) (i : Int).toNat 0))], [.loop l .ready 69 13 [2] [.ptr 1 0 0 0] #[7] asg69 body69, .box 82 [.own 3 1 0 (xs.take i).length], .gone, .flat false 1 89 (xs.take i).length (vec eA 0 (xs.take i))]⟩) (by kernel_rfl) ?_
      refine go hT 7 [0, 5, 6, 7, 11, 12] (k' := stackAt (Try.f59.body.getD .skip) [1, 0, 0, 1, 1, 0, 0, 1, 0, 2] []) (st' := ⟨16, [(0, .d (.v (.func (.yield l) #[] #[]))), (5, .d (.sl tg xs.length (vec eA 0 xs))), (6, .d (.v (.int .i64 (xs.length : Int)))), (7, .d (.v (.int .i64 (i : Int)))), (11, .d (.v (.func (.yield l) #[] #[]))), (12, .d (pA (xs.getD (i : Int).toNat 0) 0))], [.loop l .ready 69 13 [2] [.ptr 1 0 0 0] #[7] asg69 body69, .box 82 [.own 3 1 0 (xs.take i).length], .gone, .flat false 1 89 (xs.take i).length (vec eA 0 (xs.take i))]⟩) (by kernel_rfl) ?_
      refine ak_yield (av := .d (pA (xs.getD (i : Int).toNat 0) 0)) (dst := some 13) (k' := stackAt (Try.f59.body.getD .skip) [1, 0, 0, 1, 1, 0, 0, 1, 0, 3] []) [0, 5, 6, 7, 13] [0, 1, 3] hP (round69 l (xs.take i) (xs.getD (i : Int).toNat 0) (by rw [hlen]; omega)) (by kernel_rfl) (hands_three rfl rfl rfl (by decide)) (.cons (pass_d _) .nil)
        (st' := ⟨16, [(0, .d (.v (.func (.yield l) #[] #[]))), (5, .d (.sl tg xs.length (vec eA 0 xs))), (6, .d (.v (.int .i64 (xs.length : Int)))), (7, .d (.v (.int .i64 (i : Int)))), (13, .d (.v (.bool true)))], [.loop l .ready 69 13 [2] [.ptr 1 0 0 0] #[7] asg69 body69, .box 82 [.own 4 1 0 (xs.take i ++ [(xs.getD (i : Int).toNat 0)]).length], .gone, .gone, .flat false 1 89 (xs.take i ++ [(xs.getD (i : Int).toNat 0)]).length (vec eA 0 (xs.take i ++ [(xs.getD (i : Int).toNat 0)]))]⟩) (by kernel_rfl) ?_
      refine go hT 10 [0, 5, 6, 7] (k' := stackAt (Try.f59.body.getD .skip) [1, 0, 0] []) (st' := ⟨16, [(0, .d (.v (.func (.yield l) #[] #[]))), (5, .d (.sl tg xs.length (vec eA 0 xs))), (6, .d (.v (.int .i64 (xs.length : Int)))), (7, .d (.v (.int .i64 (IntKind.wrap .i64 ((i : Int) + 1)))))], [.loop l .ready 69 13 [2] [.ptr 1 0 0 0] #[7] asg69 body69, .box 82 [.own 4 1 0 (xs.take i ++ [(xs.getD (i : Int).toNat 0)]).length], .gone, .gone, .flat false 1 89 (xs.take i ++ [(xs.getD (i : Int).toNat 0)]).length (vec eA 0 (xs.take i ++ [(xs.getD (i : Int).toNat 0)]))]⟩) (by kernel_rfl) ?_
      have hw : IntKind.wrap .i64 ((i : Int) + 1) = ((i + 1 : Nat) : Int) := by simp [IntKind.wrap, IntKind.bits, IntKind.signed]; omega
      have ht : xs.take i ++ [(xs.getD (i : Int).toNat 0)] = xs.take (i + 1) := by
        rw [List.take_add_one]
        simp [show i < xs.length by omega]
      rw [hw, ht]
      refine ak_cut [0, 5, 6, 7] [0, 1, 2, 4] (st' := ⟨16, [(0, .d (.v (.func (.yield l) #[] #[]))), (5, .d (.sl tg xs.length (vec eA 0 xs))), (6, .d (.v (.int .i64 (xs.length : Int)))), (7, .d (.v (.int .i64 ((i + 1 : Nat) : Int))))], [.loop l .ready 69 13 [2] [.ptr 1 0 0 0] #[7] asg69 body69, .box 82 [.own 3 1 0 (xs.take (i + 1)).length], .gone, .flat false 1 89 (xs.take (i + 1)).length (vec eA 0 (xs.take (i + 1)))]⟩) (by kernel_rfl) (by kernel_rfl) rfl (by decide) (by rw [h0]; rfl) ?_
      exact ih (i + 1) (by omega)
  exact L xs.length 0 (by omega)
theorem appendSeq69 {tg : Bool} (xs : List Nat) (hb : xs.length * 8 ≤ 140737488355328) :
    Says Try.prog 69 [] [.d (.v (.slice none 0 0)), .d (.fn 59 [.rop false 1 (fun _ => [.sl tg xs.length (vec eA 0 xs)]) 0 0])] [.flat false 1 89 xs.length (vec eA 0  xs)] (.own 0 1 0 xs.length) := by
  refine says_of Try.func69 rfl (nt := 13) rfl (Nat.le_of_ble_eq_true rfl) fun X hP h0 hX => ?_
  have hT : TabOk X.P TJ := hP ▸ tokJ
  have hf : X.P.funcs[69]? = some Try.f69 := hP ▸ Try.func69
  refine ak_nilS [0, 1] 0 1 89 (vec eA 0 []) (st' := ⟨13, [(0, .own 0 1 0 0), (1, .d (.fn 59 [.rop false 1 (fun _ => [.sl tg xs.length (vec eA 0 xs)]) 0 0]))], [.flat false 1 89 0 (vec eA 0 [])]⟩) (by kernel_rfl) (by kernel_rfl) ?_
  refine go hT 11 [2, 6] (k' := stackAt (Try.f69.body.getD .skip) [1, 0, 1, 0] []) (st' := ⟨13, [(2, .ptr 1 0 0 0), (6, .d (.fn 59 [.rop false 1 (fun _ => [.sl tg xs.length (vec eA 0 xs)]) 0 0]))], [.flat false 1 89 0 (vec eA 0 []), .box 82 [.own 0 1 0 0]]⟩) (by kernel_rfl) ?_
  refine ak_cut [2, 6] [1, 0] (st' := ⟨13, [(2, .ptr 0 0 0 0), (6, .d (.fn 59 [.rop false 1 (fun _ => [.sl tg xs.length (vec eA 0 xs)]) 0 0]))], [.box 82 [.own 1 1 0 0], .flat false 1 89 0 (vec eA 0 [])]⟩) (by kernel_rfl) (by kernel_rfl) rfl (by decide) (by rw [h0]; rfl) ?_
  refine ak_rangeFunc (P := Try.prog) (f := 69) (g := 59) (fop := .tmp 6) (p := 7) (asg := asg69) (body := body69) (k := [.inBlock 0, .code (tail69)]) (caps := [.rop false 1 (fun _ => [.sl tg xs.length (vec eA 0 xs)]) 0 0]) (ret := .tup []) [2] [.ptr 0 0 0 0] [.ptr 0 0 0 0] [3, 0, 1]
    (fun l => [.loop l .ready 69 13 [2] [.ptr 1 0 0 0] #[7] asg69 body69, .box 82 [.own 2 1 0 0], .flat false 1 89 0 (vec eA 0 [])]) (fun l => [.loop l .ready 69 13 [2] [.ptr 1 0 0 0] #[7] asg69 body69, .box 82 [.own 3 1 0 xs.length], .gone, .flat false 1 89 xs.length (vec eA 0  xs)]) (fun l => [.d (.v (.func (.yield l) #[] #[])), .d (.rop false 1 (fun _ => [.sl tg xs.length (vec eA 0 xs)]) 0 0)])
    hP hX (by kernel_rfl) enters_59 (by kernel_rfl) (fun l => values59 l xs hb) (fun D => hands_three rfl rfl rfl (by decide)) (fun D => .cons (pass_d _) (.cons (pass_d _) .nil)) (fun D => by kernel_rfl) fun D => ?_
  have hT2 : TabOk (X.mark D).P TJ := hT
  refine go hT2 6 [4] (k' := [.code .ret]) (st' := ⟨13, [(4, .own 4 1 0 xs.length)], [.box 82 [.own 4 1 0 xs.length], .gone, .dfr D, .gone, .flat false 1 89 xs.length (vec eA 0  xs)]⟩) (by kernel_rfl) ?_
  have fin := ak_retD (X := X.mark D) (f := 69) (k := []) (ret := .own 0 1 0 xs.length) (rowsOut := [.flat false 1 89 xs.length (vec eA 0 xs)]) (st := ⟨13, [(4, .own 4 1 0 xs.length)], [.box 82 [.own 4 1 0 xs.length], .gone, .dfr D, .gone, .flat false 1 89 xs.length (vec eA 0 xs)]⟩) 2 hf ⟨rfl, rfl⟩ (by kernel_rfl) (av := .own 4 1 0 xs.length) (by kernel_rfl) [4] (by decide) (sel_of_eq (by kernel_rfl)) (by decide) (by have h1 : (X.mark D).μ0.length = 0 := h0; rw [h1]; rfl) (by kernel_rfl) (fun _ h => all_cons (nr_vec nlA) (fun _ h => all_nil h) h) (.own _ _ _ _)
  rw [mark_plain D hX] at fin
  exact fin
theorem collect57 {tg : Bool} (xs : List Nat) (hb : xs.length * 8 ≤ 140737488355328) :
    Says Try.prog 57 [] [.d (.fn 59 [.rop false 1 (fun _ => [.sl tg xs.length (vec eA 0 xs)]) 0 0])] [.flat false 1 89 xs.length (vec eA 0  xs)] (.own 0 1 0 xs.length) := by
  refine says_of Try.func57 rfl (nt := 5) rfl (Nat.le_of_ble_eq_true rfl) fun X hP h0 hX => ?_
  have hT : TabOk X.P TJ := hP ▸ tokJ
  have hf : X.P.funcs[57]? = some Try.f57 := hP ▸ Try.func57
  refine go hT 7 [3] (k' := stackAt (Try.f57.body.getD .skip) [1, 0, 1] []) (st' := ⟨5, [(3, .d (.fn 59 [.rop false 1 (fun _ => [.sl tg xs.length (vec eA 0 xs)]) 0 0]))], []⟩) (by kernel_rfl) ?_
  refine ak_callP (avs := [.d (.v (.slice none 0 0)), .d (.fn 59 [.rop false 1 (fun _ => [.sl tg xs.length (vec eA 0 xs)]) 0 0])]) (dst := some 4) (k' := stackAt (Try.f57.body.getD .skip) [1, 0, 2] []) [4] [] hP enters_69 (appendSeq69 (tg := tg) xs hb) (by kernel_rfl) (hands_none _) (.cons (pass_d _) (.cons (pass_d _) .nil))
    (st' := ⟨5, [(4, .own 0 1 0 xs.length)], [.flat false 1 89 xs.length (vec eA 0  xs)]⟩) (by kernel_rfl) ?_
  refine go hT 2 [2] (k' := stackAt (Try.f57.body.getD .skip) [1, 1] []) (st' := ⟨5, [(2, .own 0 1 0 xs.length)], [.flat false 1 89 xs.length (vec eA 0  xs)]⟩) (by kernel_rfl) ?_
  exact ak_ret hf hX (av := .own 0 1 0 xs.length) (by kernel_rfl) [0] (sel_of_eq (by kernel_rfl)) (by decide) (by rw [h0]; rfl) (by kernel_rfl) (fun _ h => all_cons (nr_vec nlA) (fun _ h => all_nil h) h) (.own _ _ _ _)


theorem values42A (xs : List Nat) : Says Try.prog 42 [.flat false 1 89 xs.length (vec eA 0 xs)] [.own 0 1 0 xs.length] [.flat false 1 89 xs.length (vec eA 0 xs), .box 82 [.own 0 1 0 xs.length]] (.fn 59 [.ptr 1 0 0 0]) := by
  refine says_of Try.func42 rfl (nt := 4) rfl (Nat.le_of_ble_eq_true rfl) fun X hP h0 hX => ?_
  have hT : TabOk X.P TJ := hP ▸ tokJ
  have hf : X.P.funcs[42]? = some Try.f42 := hP ▸ Try.func42
  refine go hT 10 [2] (k' := stackAt (Try.f42.body.getD .skip) [1, 1] []) (st' := ⟨4, [(2, .fn 59 [.ptr 1 0 0 0])], [.flat false 1 89 xs.length (vec eA 0 xs), .box 82 [.own 0 1 0 xs.length]]⟩) (by kernel_rfl) ?_
  exact ak_ret hf hX (av := .fn 59 [.ptr 1 0 0 0]) (by kernel_rfl) [0, 1] (sel_of_eq (by kernel_rfl)) (by decide) (by rw [h0]; rfl) (by kernel_rfl) (fun _ h => all_cons (nr_vec nlA) (fun _ h => all_cons (.box (.cons (.own _ _ _ _) .nil)) (fun _ h => all_nil h) h) h) (.fn (.cons (.ptr _ _ _ _) .nil))
theorem by43A : Says Try.prog 43 [] [.d (.fn 44 [])] [.box 108 [.d (.fn 44 [])]] (.fn 60 [.ptr 0 0 0 0]) := by
  refine says_of Try.func43 rfl (nt := 4) rfl (Nat.le_of_ble_eq_true rfl) fun X hP h0 hX => ?_
  have hT : TabOk X.P TJ := hP ▸ tokJ
  have hf : X.P.funcs[43]? = some Try.f43 := hP ▸ Try.func43
  refine go hT 10 [2] (k' := stackAt (Try.f43.body.getD .skip) [1, 1] []) (st' := ⟨4, [(2, .fn 60 [.ptr 0 0 0 0])], [.box 108 [.d (.fn 44 [])]]⟩) (by kernel_rfl) ?_
  exact ak_ret hf hX (av := .fn 60 [.ptr 0 0 0 0]) (by kernel_rfl) [0] (sel_of_eq (by kernel_rfl)) (by decide) (by rw [h0]; rfl) (by kernel_rfl) (fun _ h => all_cons (.box (.cons (.d (.fn .nil)) .nil)) (fun _ h => all_nil h) h) (.fn (.cons (.ptr _ _ _ _) .nil))
theorem by_eq (a b : hold_item) : hold_by_1_l0_l1 a b = some (cfH a b) := by
  unfold hold_by_1_l0_l1
  simp only [bnd]
  rw [mut_Compare_eq]
  rfl
theorem sort58A (xs dom : List Nat) (M : Nat → hold_item) (hsub : ∀ a ∈ xs, a ∈ dom) (hb : xs.length * 8 ≤ 140737488355328) :
    Says Try.prog 58 [.flat false 1 89 xs.length (vec eA 0 xs), .obj (arO hold_item.e hold_item.nl 95 dom M)] [.own 0 1 0 xs.length, .d (.fn 60 [.rop false 1 (fun _ => [.fn 44 []]) 0 0])] [.flat false 1 89 xs.length (vec eA 0 (sortA dom M xs)), .obj (arO hold_item.e hold_item.nl 95 dom M)] (.tup []) :=
  sort_saysA Try.sort58Iv cfH swo_cfH 60 enters_60 (fun x y => hold_by_1_l0_l1.says x y (by_eq x y)) hsub (by omega)
theorem sortedFunc41A' {tg : Bool} (xs dom : List Nat) (M : Nat → hold_item) (h : (∀ a ∈ xs, a ∈ dom) ∧ xs.length * 8 ≤ 140737488355328) :
    Says Try.prog 41 [.obj (arO hold_item.e hold_item.nl 95 dom M)] [.d (.fn 59 [.rop false 1 (fun _ => [.sl tg xs.length (vec eA 0 xs)]) 0 0]), .d (.fn 60 [.rop false 1 (fun _ => [.fn 44 []]) 0 0])] [.obj (arO hold_item.e hold_item.nl 95 dom M), .flat false 1 89 xs.length (vec eA 0 (sortA dom M xs))] (.own 1 1 0 xs.length) := by
  have hb := h.2
  refine says_of Try.func41 rfl (nt := 12) rfl (Nat.le_of_ble_eq_true rfl) fun X hP h0 hX => ?_
  have hT : TabOk X.P TJ := hP ▸ tokJ
  have hf : X.P.funcs[41]? = some Try.f41 := hP ▸ Try.func41
  refine go hT 7 [1, 6] (k' := stackAt (Try.f41.body.getD .skip) [1, 0, 1] []) (st' := ⟨12, [(1, .d (.fn 60 [.rop false 1 (fun _ => [.fn 44 []]) 0 0])), (6, .d (.fn 59 [.rop false 1 (fun _ => [.sl tg xs.length (vec eA 0 xs)]) 0 0]))], [.obj (arO hold_item.e hold_item.nl 95 dom M)]⟩) (by kernel_rfl) ?_
  refine ak_callP (avs := [.d (.fn 59 [.rop false 1 (fun _ => [.sl tg xs.length (vec eA 0 xs)]) 0 0])]) (dst := some 7) (k' := stackAt (Try.f41.body.getD .skip) [1, 0, 2] []) [1, 7] [] hP enters_57 (collect57 (tg := tg) xs hb) (by kernel_rfl) (hands_none _) (.cons (pass_d _) .nil)
    (st' := ⟨12, [(1, .d (.fn 60 [.rop false 1 (fun _ => [.fn 44 []]) 0 0])), (7, .own 1 1 0 xs.length)], [.obj (arO hold_item.e hold_item.nl 95 dom M), .flat false 1 89 xs.length (vec eA 0 xs)]⟩) (by kernel_rfl) ?_
  refine go hT 6 [5, 8, 9] (k' := stackAt (Try.f41.body.getD .skip) [1, 1, 0, 2] []) (st' := ⟨12, [(5, .own 1 1 0 xs.length), (8, .own 1 1 0 xs.length), (9, .d (.fn 60 [.rop false 1 (fun _ => [.fn 44 []]) 0 0]))], [.obj (arO hold_item.e hold_item.nl 95 dom M), .flat false 1 89 xs.length (vec eA 0 xs)]⟩) (by kernel_rfl) ?_
  refine ak_callP (avs := [.own 1 1 0 xs.length, .d (.fn 60 [.rop false 1 (fun _ => [.fn 44 []]) 0 0])]) (dst := some 10) (k' := stackAt (Try.f41.body.getD .skip) [1, 1, 0, 3] []) [5] [1, 0] hP enters_58 (sort58A xs dom M h.1 hb) (by kernel_rfl) (hands_two rfl rfl rfl rfl (by decide)) (.cons (.same (.own 0 1 0 xs.length)) (.cons (pass_d _) .nil))
    (st' := ⟨12, [(5, .own 1 1 0 xs.length)], [.obj (arO hold_item.e hold_item.nl 95 dom M), .flat false 1 89 xs.length (vec eA 0 (sortA dom M xs))]⟩) (by kernel_rfl) ?_
  refine go hT 6 [4] (k' := stackAt (Try.f41.body.getD .skip) [1, 1, 1, 1] []) (st' := ⟨12, [(4, .own 1 1 0 xs.length)], [.obj (arO hold_item.e hold_item.nl 95 dom M), .flat false 1 89 xs.length (vec eA 0 (sortA dom M xs))]⟩) (by kernel_rfl) ?_
  exact ak_ret hf hX (av := .own 1 1 0 xs.length) (by kernel_rfl) [0, 1] (sel_of_eq (by kernel_rfl)) (by decide) (by rw [h0]; rfl) (by kernel_rfl) (fun _ h => all_cons (.obj _) (fun _ h => all_cons (nr_vec nlA) (fun _ h => all_nil h) h) h) (.own _ _ _ _)
theorem sortA_len (dom : List Nat) (M : Nat → hold_item) (xs : List Nat) : (sortA dom M xs).length = xs.length := sortL_length _ (swo_cfD swo_cfH dom M) xs
theorem sortedFunc41A {tg : Bool} (xs dom : List Nat) (M : Nat → hold_item) (h : (∀ a ∈ xs, a ∈ dom) ∧ xs.length * 8 ≤ 140737488355328) :
    Says Try.prog 41 [.obj (arO hold_item.e hold_item.nl 95 dom M)] [.d (.fn 59 [.rop false 1 (fun _ => [.sl tg xs.length (vec eA 0 xs)]) 0 0]), .d (.fn 60 [.rop false 1 (fun _ => [.fn 44 []]) 0 0])] [.obj (arO hold_item.e hold_item.nl 95 dom M), .flat false 1 89 (sortA dom M xs).length (vec eA 0 (sortA dom M xs))] (.own 1 1 0 (sortA dom M xs).length) := by
  have h1 := sortedFunc41A' (tg := tg) xs dom M h
  have : ∀ n, n = xs.length → Says Try.prog 41 [.obj (arO hold_item.e hold_item.nl 95 dom M)] [.d (.fn 59 [.rop false 1 (fun _ => [.sl tg xs.length (vec eA 0 xs)]) 0 0]), .d (.fn 60 [.rop false 1 (fun _ => [.fn 44 []]) 0 0])] [.obj (arO hold_item.e hold_item.nl 95 dom M), .flat false 1 89 n (vec eA 0 (sortA dom M xs))] (.own 1 1 0 n) := fun n hn => by
    subst hn
    exact h1
  exact this _ (sortA_len dom M xs)
end Go.SyP
