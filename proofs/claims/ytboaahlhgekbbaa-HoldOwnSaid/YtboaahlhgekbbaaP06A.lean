/- Hold: how stamps stand; states of the heap. -/
import Derived.Test.YtboaahlhgekbbaaP06mD
set_option linter.unusedVariables false
set_option linter.unusedSimpArgs false
namespace Go.SyP
open Go Go.Sy

/-! ### How stamps stand -/
def cmp3 (x y : Int) : Int := if x < y then -1 else if x > y then 1 else 0
def cmpS (a b : api_Stamp) : Int := if cmp3 a.Time b.Time ≠ 0 then cmp3 a.Time b.Time else if cmp3 a.Client b.Client ≠ 0 then cmp3 a.Client b.Client else cmp3 a.Seq b.Seq
theorem cmp_eq (x y : Int) : cmp_Compare_int x y = cmp3 x y := by
  unfold cmp_Compare_int cmp_isNaN_int cmp3
  by_cases h1 : x < y
  · simp [h1]
  · by_cases h2 : x > y
    · simp [h1, h2]
    · simp [h1, h2]
theorem mut_Compare_eq (a b : api_Stamp) : mut_Compare a b = some (cmpS a b) := by
  unfold mut_Compare cmp_Or_int cmpS
  rw [cmp_eq, cmp_eq, cmp_eq]
  generalize cmp3 a.Time b.Time = x
  generalize cmp3 a.Client b.Client = y
  generalize cmp3 a.Seq b.Seq = z
  have w0 : IntKind.wrap .i64 ((0 : Int) + 1) = 1 := by decide
  have w1 : IntKind.wrap .i64 ((1 : Int) + 1) = 2 := by decide
  have w2 : IntKind.wrap .i64 ((2 : Int) + 1) = 3 := by decide
  rw [loop_eq]
  simp only [cmp_Or_int.step, cmp_Or_int.l1, List.length_cons, List.length_nil]
  by_cases hx : x = 0
  · subst hx
    simp only [w0, stk]
    rw [show (if (0 : Int) < ((0 + 1 + 1 + 1 : Nat) : Int) then _ else _) = _ from if_pos (by decide), if_pos (by decide)]
    simp only [List.getD_cons_zero, Int.toNat_zero, if_true]
    rw [loop_eq]
    simp only [cmp_Or_int.step, cmp_Or_int.l1, List.length_cons, List.length_nil, w1]
    rw [if_pos (by decide), if_pos (by decide)]
    simp only [show (1 : Int).toNat = 1 from rfl, List.getD_cons_succ, List.getD_cons_zero]
    by_cases hy : y = 0
    · subst hy
      simp only [if_true, stk]
      rw [loop_eq]
      simp only [cmp_Or_int.step, cmp_Or_int.l1, List.length_cons, List.length_nil, w2]
      rw [if_pos (by decide), if_pos (by decide)]
      simp only [show (2 : Int).toNat = 2 from rfl, List.getD_cons_succ, List.getD_cons_zero]
      by_cases hz : z = 0
      · subst hz
        simp only [if_true, stk]
        rw [loop_eq]
        simp [cmp_Or_int.step, cmp_Or_int.l1, stk]
      · simp [hz, stk]
    · simp [hy, stk]
  · rw [if_pos (by decide), if_pos (by decide)]
    simp [hx, stk]

def ltS (a b : api_Stamp) : Prop := a.Time < b.Time ∨ (a.Time = b.Time ∧ (a.Client < b.Client ∨ (a.Client = b.Client ∧ a.Seq < b.Seq)))
instance (a b : api_Stamp) : Decidable (ltS a b) := by unfold ltS; infer_instance
theorem cmpS_lt (a b : api_Stamp) : cmpS a b < 0 ↔ ltS a b := by
  unfold cmpS cmp3 ltS
  split <;> split <;> (try split) <;> (try split) <;> omega
def leS (a b : api_Stamp) : Prop := ¬ ltS b a
theorem leS_refl (a : api_Stamp) : leS a a := by unfold leS ltS; omega
theorem leS_trans {a b c : api_Stamp} (h : leS a b) (k : leS b c) : leS a c := by unfold leS ltS at *; omega
theorem leS_of_lt {a b : api_Stamp} (h : ltS a b) : leS a b := by unfold leS ltS at *; omega
theorem leS_total (a b : api_Stamp) : leS a b ∨ leS b a := by unfold leS ltS; omega

def stampH (h : api_Held) : api_Stamp := ⟨h.Time, h.M.Client, h.M.Seq⟩

/-! ### States -/
structure HS (dom l : List Nat) (M : Nat → hold_item) : Prop where
  sub : ∀ a ∈ l, a ∈ dom
  nd : l.Nodup
  at_ : ∀ i, i < l.length → (M (l.getD i 0)).at_ = (i : Int)
  len : l.length ≤ 1000000000000000000

theorem getD_mem {l : List Nat} {i : Nat} (h : i < l.length) : l.getD i 0 ∈ l := by
  rw [List.getD_eq_getElem?_getD, List.getElem?_eq_getElem h]
  exact List.getElem_mem h
theorem getD_inj {l : List Nat} (hn : l.Nodup) {i j : Nat} (hi : i < l.length) (hj : j < l.length) (h : l.getD i 0 = l.getD j 0) : i = j := by
  rw [List.getD_eq_getElem?_getD, List.getD_eq_getElem?_getD, List.getElem?_eq_getElem hi, List.getElem?_eq_getElem hj] at h
  rcases Nat.lt_trichotomy i j with k | k | k
  · exact absurd h (List.pairwise_iff_getElem.1 hn i j hi hj k)
  · exact k
  · exact absurd h.symm (List.pairwise_iff_getElem.1 hn j i hj hi k)

def swapL (l : List Nat) (i j : Nat) : List Nat := (l.set i (l.getD j 0)).set j (l.getD i 0)
theorem swapL_len (l : List Nat) (i j : Nat) : (swapL l i j).length = l.length := by simp [swapL]
theorem swapL_perm {l : List Nat} {i j : Nat} (hi : i < l.length) (hj : j < l.length) : (swapL l i j).Perm l := by
  have := List.set_set_perm hi hj
  unfold swapL
  simpa [hi, hj] using this
theorem swapL_getD {l : List Nat} {i j : Nat} (hi : i < l.length) (hj : j < l.length) (k : Nat) : (swapL l i j).getD k 0 = if k = j then l.getD i 0 else if k = i then l.getD j 0 else l.getD k 0 := by
  unfold swapL
  by_cases h1 : k = j
  · subst h1
    simp [hj]
  · by_cases h2 : k = i
    · subst h2
      simp [h1, Ne.symm h1, hi, List.getElem?_set]
    · simp [h1, h2, Ne.symm h1, Ne.symm h2, List.getElem?_set]

def setAt (x : hold_item) (i : Int) : hold_item := { x with at_ := i }
def swM (M : Nat → hold_item) (l : List Nat) (i j : Nat) : Nat → hold_item :=
  let M1 := upd M (l.getD i 0) (setAt (M (l.getD i 0)) i)
  upd M1 (l.getD j 0) (setAt (M1 (l.getD j 0)) j)
theorem swM_h (M : Nat → hold_item) (l : List Nat) (i j a : Nat) : (swM M l i j a).h = (M a).h := by
  simp only [swM, upd]
  split
  · rename_i h
    subst h
    simp only [setAt]
    split
    · rename_i h
      rw [h]
    · rfl
  · split
    · rename_i h
      subst h
      rfl
    · rfl

theorem swap_HS {dom l : List Nat} {M : Nat → hold_item} (h : HS dom l M) {i j : Nat} (hi : i < l.length) (hj : j < l.length) : HS dom (swapL l i j) (swM M (swapL l i j) i j) := by
  have p := swapL_perm hi hj
  have hlen := swapL_len l i j
  refine ⟨fun a ha => h.sub a (p.mem_iff.1 ha), p.nodup_iff.2 h.nd, fun k hk => ?_, by rw [hlen]; exact h.len⟩
  have hnd : (swapL l i j).Nodup := p.nodup_iff.2 h.nd
  by_cases hkj : k = j
  · subst hkj
    simp [swM, upd, setAt]
  · have hne : (swapL l i j).getD k 0 ≠ (swapL l i j).getD j 0 := fun e => hkj (getD_inj hnd hk (by omega) e)
    by_cases hki : k = i
    · subst hki
      simp only [swM, upd]
      rw [if_neg hne, if_pos trivial]
      rfl
    · have hne2 : (swapL l i j).getD k 0 ≠ (swapL l i j).getD i 0 := fun e => hki (getD_inj hnd hk (by omega) e)
      simp only [swM, upd]
      rw [if_neg hne, if_neg hne2, swapL_getD hi hj, if_neg hkj, if_neg hki]
      exact h.at_ k (by omega)

theorem Swap_eq {dom l : List Nat} {M : Nat → hold_item} (h : HS dom l M) {i j : Nat} (hi : i < l.length) (hj : j < l.length) :
    hold_items_Swap ⟨⟨l⟩⟩ i j dom M = some (⟨⟨swapL l i j⟩⟩, swM M (swapL l i j) i j) := by
  have p := swapL_perm hi hj
  have hlen := swapL_len l i j
  unfold hold_items_Swap
  simp only [bnd, Int.toNat_natCast]
  refine (if_pos (by omega)).trans ((if_pos (by omega)).trans ((if_pos (by simp; omega)).trans ((if_pos ?_).trans ((if_pos ?_).trans ((if_pos ?_).trans ((if_pos ?_).trans ?_))))))
  · simp; omega
  · simp; omega
  · exact h.sub _ (p.mem_iff.1 (getD_mem (l := swapL l i j) (by omega)))
  · exact h.sub _ (p.mem_iff.1 (getD_mem (l := swapL l i j) (by omega)))
  · rfl

theorem stamp_eq {dom : List Nat} {M : Nat → hold_item} {a : Nat} (h : a ∈ dom) : hold_item_stamp a dom M = some (stampH (M a).h) := by
  unfold hold_item_stamp
  rw [if_pos h]
  rfl

theorem Less_eq {dom l : List Nat} {M : Nat → hold_item} (h : HS dom l M) {i j : Nat} (hi : i < l.length) (hj : j < l.length) :
    hold_items_Less ⟨⟨l⟩⟩ i j dom M = some (decide (ltS (stampH (M (l.getD i 0)).h) (stampH (M (l.getD j 0)).h)), ⟨⟨l⟩⟩) := by
  unfold hold_items_Less
  simp only [Int.toNat_natCast]
  rw [if_pos (by omega), stamp_eq (h.sub _ (getD_mem hi)), Option.bind_some, if_pos (by omega), stamp_eq (h.sub _ (getD_mem hj)), Option.bind_some, mut_Compare_eq, Option.bind_some]
  simp only [cmpS_lt]
end Go.SyP
