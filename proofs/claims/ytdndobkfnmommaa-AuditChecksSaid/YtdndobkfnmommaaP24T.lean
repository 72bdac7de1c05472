/- A story of what must be seen has no finding; one read that is turned has one. -/
import Derived.Test.YtdndobkfnmommaaP24S
set_option linter.unusedVariables false
set_option linter.unusedSimpArgs false
namespace Go.SyP
open Go Go.Sy Sets

theorem place (a n : Int) (h0 : 0 < n) (h1 : n ≤ 1000000) : 0 ≤ Int.tmod (IntKind.wrap .i64 (Int.tmod a n + n)) n ∧ Int.tmod (IntKind.wrap .i64 (Int.tmod a n + n)) n < n := by
 have h2 := Int.tmod_lt_of_pos a h0
 have h3 := Int.lt_tmod_of_pos a h0
 rw [wr (by omega)]
 exact ⟨Int.tmod_nonneg _ (by omega), Int.tmod_lt_of_pos _ h0⟩

theorem findL_one {order : List api_Entry} {R : List api_Event} {k : Nat} {w : Int} (hw : w ≠ 0) (hk : wAt order R k = w) (h : ∀ j, j < R.length → j ≠ k → wAt order R j = 0) : ∀ n, n ≤ R.length → findL order R n = if k < n then [((k : Int), w)] else []
 | 0, _ => by simp [findL]
 | n + 1, hn => by
  rw [findL_succ, findL_one hw hk h n (by omega)]
  by_cases hnk : n = k
  ·subst hnk
   rw [hk, if_neg hw, if_neg (by omega), if_pos (by omega), List.nil_append]
  ·rw [if_pos (h n (by omega) hnk)]
   by_cases hl : k < n
   ·rw [if_pos hl, if_pos (by omega)]
   ·rw [if_neg hl, if_neg (by omega)]

structure RInv (order : List api_Entry) (i : Nat) (R : List api_Event) (reads : List Int) (m s : Int → Int) : Prop where
 len : R.length ≤ i
 rl : reads.length ≤ i
 prs : ∀ e ∈ R, e.M.Pairs.length ≤ 10
 z : ∀ j, j < R.length → wAt order R j = 0
 sq : ∀ c, s c = ((issL (c + 1) R).length : Int)
 mrk : ∀ c, m c = marL (c + 1) R
 rd : ∀ r ∈ reads, ∃ k : Nat, r = (k : Int) ∧ k < R.length ∧ (R.getD k api_Event.z).Kind = 2
theorem foldl_swap {α β : Type} (f : β → α → β) (e e' : α) (h : ∀ x, f x e = f x e') (A B : List α) (x : β) : (A ++ e :: B).foldl f x = (A ++ e' :: B).foldl f x := by
 rw [List.foldl_append, List.foldl_append, List.foldl_cons, List.foldl_cons, h]
theorem turned {order : List api_Entry} {R : List api_Event} (hz : ∀ j, j < R.length → wAt order R j = 0) {k : Nat} (hk : k < R.length) (hkd : (R.getD k api_Event.z).Kind = 2) (C : api_Cell) (hC : cellB C = true) (hne : C.Some ≠ (R.getD k api_Event.z).Cell.Some) :
  findL order (R.set k ⟨(R.getD k api_Event.z).Kind, (R.getD k api_Event.z).Client, (R.getD k api_Event.z).M, (R.getD k api_Event.z).Key, C, (R.getD k api_Event.z).Mark⟩) R.length = [((k : Int), 4)] := by
 obtain ⟨A, e, B, rfl, hA⟩ : ∃ A e B, R = A ++ e :: B ∧ A.length = k := ⟨R.take k, R[k], R.drop (k + 1), by rw [← List.drop_eq_getElem_cons hk, List.take_append_drop], by rw [List.length_take]; omega⟩
 have hek : (A ++ e :: B).getD k api_Event.z = e := by subst hA; simp [List.getD_eq_getElem?_getD]
 rw [hek] at hkd hne ⊢
 generalize he' : (⟨e.Kind, e.Client, e.M, e.Key, C, e.Mark⟩ : api_Event) = e'
 have hset : (A ++ e :: B).set k e' = A ++ e' :: B := by subst hA; simp
 rw [hset]
 have q1 : e'.Kind = e.Kind := by rw [← he']
 have q2 : e'.Client = e.Client := by rw [← he']
 have q3 : e'.Mark = e.Mark := by rw [← he']
 have q4 : e'.Key = e.Key := by rw [← he']
 have q5 : e'.Cell = C := by rw [← he']
 have q6 : e'.M = e.M := by rw [← he']
 have hwk := hz k hk
 have hwk2 : whyV order (issL e.Client A) (marL e.Client A) e = 0 := by
  unfold wAt at hwk
  rw [hek] at hwk
  have : (A ++ e :: B).take k = A := by subst hA; simp
  rw [this] at hwk
  exact hwk
 have hk1 : ¬ e.Kind = 1 := by omega
 have hfo : formB e = true := by
  cases hf : formB e with
  | true => rfl
  | false => unfold whyV at hwk2; rw [hf] at hwk2; simp at hwk2
 have hfo' : formB e' = true := by
  unfold formB at hfo ⊢
  rw [q1, q2, q3, q4, q5, q6]
  rw [if_neg hk1, if_pos hkd] at hfo ⊢
  simp only [Bool.and_eq_true] at hfo ⊢
  exact ⟨hfo.1, hfo.2.1, hC⟩
 have hiss : ∀ c A' B', issL c (A' ++ e' :: B') = issL c (A' ++ e :: B') := fun c A' B' => foldl_swap (issS c) e' e (fun x => by
  unfold issS
  rw [if_neg (by simp [issC, q1, hk1]), if_neg (by simp [issC, hk1])]) A' B' []
 have hmar : ∀ c A' B', marL c (A' ++ e' :: B') = marL c (A' ++ e :: B') := fun c A' B' => foldl_swap (marS c) e' e (fun x => by
  unfold marS
  rw [q1, q2, q3, hfo, hfo']) A' B' 0
 have hlen : (A ++ e' :: B).length = (A ++ e :: B).length := by simp
 have hwk3 : wAt order (A ++ e' :: B) k = 4 := by
  unfold wAt
  have g1 : (A ++ e' :: B).getD k api_Event.z = e' := by subst hA; simp [List.getD_eq_getElem?_getD]
  have g2 : (A ++ e' :: B).take k = A := by subst hA; simp
  rw [g1, g2, q2]
  unfold whyV at hwk2 ⊢
  rw [hfo, if_pos rfl, if_neg hk1] at hwk2
  rw [hfo', if_pos rfl, q1, if_neg hk1, q3, q4, q5]
  by_cases hm : e.Mark < marL e.Client A
  ·rw [if_pos hm] at hwk2; cases hwk2
  ·rw [if_neg hm] at hwk2 ⊢
   by_cases hcell : (seeC order (issL e.Client A) e.Key e.Mark).Val = e.Cell.Val ∧ (seeC order (issL e.Client A) e.Key e.Mark).Some = e.Cell.Some
   ·rw [if_neg (fun hh => hne (hh.2.symm.trans hcell.2))]
   ·rw [if_neg hcell] at hwk2; cases hwk2
 have hrest : ∀ j, j < (A ++ e' :: B).length → j ≠ k → wAt order (A ++ e' :: B) j = 0 := by
  intro j hj hjk
  have hj' : j < (A ++ e :: B).length := by rw [← hlen]; exact hj
  have hw := hz j hj'
  unfold wAt at hw ⊢
  have g1 : (A ++ e' :: B).getD j api_Event.z = (A ++ e :: B).getD j api_Event.z := by
   rw [← hset]
   simp only [List.getD_eq_getElem?_getD]
   rw [List.getElem?_set_ne (Ne.symm hjk)]
  rw [g1]
  rcases Nat.lt_or_ge j A.length with h1 | h1
  ·have g2 : (A ++ e' :: B).take j = (A ++ e :: B).take j := by rw [List.take_append_of_le_length (by omega), List.take_append_of_le_length (by omega)]
   rw [g2]; exact hw
  ·obtain ⟨d, hd⟩ : ∃ d, j = A.length + (d + 1) := ⟨j - A.length - 1, by omega⟩
   have g2 : ∀ y, (A ++ y :: B).take j = A ++ y :: B.take d := fun y => by
    rw [hd, List.take_length_add_append, List.take_succ_cons]
   rw [g2] at hw ⊢
   rw [hiss, hmar]; exact hw
 rw [← hlen, findL_one (by decide) hwk3 hrest _ (Nat.le_refl _), if_pos (by rw [hlen]; exact hk)]
end Go.SyP
set_option linter.unusedVariables false
set_option linter.unusedSimpArgs false
namespace Go.SyP
open Go Go.Sy Sets

end Go.SyP
