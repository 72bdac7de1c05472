/- Where two trees differ: both ways of telling come to the same keys, and to the same spans. -/
import Derived.Test.YtckflmadcnfpeaaP20N
set_option linter.unusedVariables false
set_option linter.unusedSimpArgs false
namespace Go.SyP
open Go Go.Sy Go.Crc

/-- A key whose leaf differs, below nodes that do. -/
def dk (t u : merkle_Tree) (k : Nat) : Bool := t.root != u.root && (t.mid (k / 256) != u.mid (k / 256) && (t.low (k / 16) != u.low (k / 16) && t.leaf k != u.leaf k))
def dks (t u : merkle_Tree) : List Nat := (List.range 4096).filter (dk t u)
theorem dk_symm (t u : merkle_Tree) (k : Nat) : dk t u k = dk u t k := by
  have e : ∀ a b : Int, (a != b) = (b != a) := fun a b => by simp only [bne]; rw [Bool.beq_comm]
  unfold dk
  rw [e t.root, e (t.mid _), e (t.low _), e (t.leaf _)]
theorem dks_symm (t u : merkle_Tree) : dks t u = dks u t := List.filter_congr fun k _ => dk_symm t u k

def f3 (t u : merkle_Tree) (k : Nat) : Bool := t.leaf k != u.leaf k
def f2 (t u : merkle_Tree) (k : Nat) : Bool := t.low (k / 16) != u.low (k / 16) && f3 t u k
def f1 (t u : merkle_Tree) (k : Nat) : Bool := t.mid (k / 256) != u.mid (k / 256) && f2 t u k
abbrev ints (l : List Nat) : List Int := l.map (fun k : Nat => (k : Int))
theorem differ3 (t u : merkle_Tree) (i : Nat) (x6 x18 : Int) (hi : i < 256) : ∀ (m x : Nat) (r : List Int), x + m = 16 * (i + 1) → r.length + m ≤ 5000 →
    goLoop (merkle_differ.step t u) (.l3 x6 (i : Int) (x : Int) x18 r) = goLoop (merkle_differ.step t u) (.l2 x6 ((i + 1 : Nat) : Int) x18 (r ++ ints ((List.range' x m).filter (f3 t u)))) := by
  have hw : IntKind.wrap .i64 (IntKind.wrap .i64 ((i : Int) + 1) * 16) = ((16 * (i + 1) : Nat) : Int) := by rw [wr (n := (i : Int) + 1) (by omega), wr (by omega)]; omega
  have hw2 : IntKind.wrap .i64 ((i : Int) + 1) = ((i + 1 : Nat) : Int) := by rw [wr (by omega)]; omega
  intro m
  induction m with
  | zero =>
    intro x r hx hr
    rw [loop_eq]
    simp only [merkle_differ.step, merkle_differ.l3]
    rw [hw, if_neg (by omega), hw2]
    simp [stk]
  | succ m ih =>
    intro x r hx hr
    have hw3 : IntKind.wrap .i64 ((x : Int) + 1) = ((x + 1 : Nat) : Int) := by rw [wr (by omega)]; omega
    rw [loop_eq]
    simp only [merkle_differ.step, merkle_differ.l3]
    rw [hw, if_pos (by omega), if_pos (by omega)]
    simp only [Int.toNat_natCast, merkle_differ.j1, hw3]
    rw [List.range'_succ]
    by_cases h : t.leaf x = u.leaf x
    · rw [if_pos h, List.filter_cons_of_neg (by simp [f3, h])]
      exact ih (x + 1) r (by omega) (by omega)
    · rw [if_neg h, if_pos (by omega), List.filter_cons_of_pos (by simp [f3, h])]
      simp only [stk]
      rw [ih (x + 1) _ (by omega) (by simp; omega)]
      simp
theorem filter_none {l : List Nat} {q : Nat → Bool} (h : ∀ k ∈ l, q k = false) : l.filter q = [] := by
  rw [List.filter_eq_nil_iff]
  intro k hk
  rw [h k hk]
  decide
theorem len_filter (q : Nat → Bool) (s m : Nat) : ((List.range' s m).filter q).length ≤ m := by
  have := List.length_filter_le q (List.range' s m)
  rw [List.length_range'] at this
  exact this
theorem differ2 (t u : merkle_Tree) (k : Nat) (x18 : Int) (hk : k < 16) : ∀ (m i : Nat) (r : List Int), i + m = 16 * (k + 1) → r.length + 16 * m ≤ 5000 →
    goLoop (merkle_differ.step t u) (.l2 (k : Int) (i : Int) x18 r) = goLoop (merkle_differ.step t u) (.l1 (IntKind.wrap .i64 (x18 + 1)) (r ++ ints ((List.range' (16 * i) (16 * m)).filter (f2 t u)))) := by
  have hw : IntKind.wrap .i64 (IntKind.wrap .i64 ((k : Int) + 1) * 16) = ((16 * (k + 1) : Nat) : Int) := by rw [wr (n := (k : Int) + 1) (by omega), wr (by omega)]; omega
  intro m
  induction m with
  | zero =>
    intro i r hx hr
    rw [loop_eq]
    simp only [merkle_differ.step, merkle_differ.l2]
    rw [hw, if_neg (by omega)]
    simp [stk]
  | succ m ih =>
    intro i r hx hr
    have hw3 : IntKind.wrap .i64 ((i : Int) + 1) = ((i + 1 : Nat) : Int) := by rw [wr (by omega)]; omega
    have hw4 : IntKind.wrap .i64 ((i : Int) * 16) = ((16 * i : Nat) : Int) := by rw [wr (by omega)]; omega
    have hs : List.range' (16 * i) (16 * (m + 1)) = List.range' (16 * i) 16 ++ List.range' (16 * (i + 1)) (16 * m) := by
      rw [show 16 * (m + 1) = 16 + 16 * m by omega, show 16 * (i + 1) = 16 * i + 1 * 16 by omega, List.range'_append]
    rw [loop_eq]
    simp only [merkle_differ.step, merkle_differ.l2]
    rw [hw, if_pos (by omega), if_pos (by omega)]
    simp only [Int.toNat_natCast, hw3, hw4]
    rw [hs, List.filter_append]
    have hq : ∀ q ∈ List.range' (16 * i) 16, q / 16 = i := fun q hq => by
      have := List.mem_range'_1.1 hq
      omega
    by_cases h : t.low i = u.low i
    · rw [if_pos h, filter_none (l := List.range' (16 * i) 16) (fun q hq' => by simp only [f2]; rw [hq q hq', h]; simp)]
      exact ih (i + 1) r (by omega) (by omega)
    · rw [if_neg h]
      simp only [stk]
      rw [differ3 t u i _ _ (by omega) 16 (16 * i) r (by omega) (by omega)]
      have e : (List.range' (16 * i) 16).filter (f3 t u) = (List.range' (16 * i) 16).filter (f2 t u) := List.filter_congr fun q hq' => by
        unfold f2
        rw [hq q hq', show (t.low i != u.low i) = true by simp [h], Bool.true_and]
      have hl := len_filter (f2 t u) (16 * i) 16
      rw [e, ih (i + 1) _ (by omega) (by simp only [List.length_append, List.length_map]; omega)]
      simp
set_option maxRecDepth 4000 in
theorem differ1 (t u : merkle_Tree) : ∀ (m k : Nat) (r : List Int), k + m = 16 → r.length + 256 * m ≤ 5000 →
    goLoop (merkle_differ.step t u) (.l1 (k : Int) r) = some (r ++ ints ((List.range' (256 * k) (256 * m)).filter (f1 t u))) := by
  intro m
  induction m with
  | zero =>
    intro k r hx hr
    rw [loop_eq]
    simp only [merkle_differ.step, merkle_differ.l1]
    rw [if_neg (by omega)]
    simp [stk]
  | succ m ih =>
    intro k r hx hr
    have hw3 : IntKind.wrap .i64 ((k : Int) + 1) = ((k + 1 : Nat) : Int) := by rw [wr (by omega)]; omega
    have hw4 : IntKind.wrap .i64 ((k : Int) * 16) = ((16 * k : Nat) : Int) := by rw [wr (by omega)]; omega
    have hs : List.range' (256 * k) (256 * (m + 1)) = List.range' (256 * k) 256 ++ List.range' (256 * (k + 1)) (256 * m) := by
      rw [show 256 * (m + 1) = 256 + 256 * m by omega, show 256 * (k + 1) = 256 * k + 1 * 256 by omega, List.range'_append]
    rw [loop_eq]
    simp only [merkle_differ.step, merkle_differ.l1]
    rw [if_pos (by omega), if_pos (by omega)]
    simp only [Int.toNat_natCast, hw3, hw4]
    rw [hs, List.filter_append]
    have hq : ∀ q ∈ List.range' (256 * k) 256, q / 256 = k := fun q hq => by
      have := List.mem_range'_1.1 hq
      omega
    by_cases h : t.mid k = u.mid k
    · rw [if_pos h, filter_none (l := List.range' (256 * k) 256) (fun q hq' => by simp only [f1]; rw [hq q hq', h]; simp)]
      exact ih (k + 1) r (by omega) (by omega)
    · rw [if_neg h]
      simp only [stk]
      have hb1 : 16 * k + 16 = 16 * (k + 1) := by omega
      have hb2 : r.length + 16 * 16 ≤ 5000 := by omega
      have H := differ2 t u k (k : Int) (by omega) 16 (16 * k) r hb1 hb2
      rw [H, hw3, show 16 * (16 * k) = 256 * k by omega, show 16 * 16 = 256 from rfl]
      have e : (List.range' (256 * k) 256).filter (f2 t u) = (List.range' (256 * k) 256).filter (f1 t u) := List.filter_congr fun q hq' => by
        unfold f1
        rw [hq q hq', show (t.mid k != u.mid k) = true by simp [h], Bool.true_and]
      have hl := len_filter (f1 t u) (256 * k) 256
      rw [e, ih (k + 1) _ (by omega) (by simp only [List.length_append, List.length_map]; omega)]
      simp
theorem differ_eq (t u : merkle_Tree) : merkle_differ t u = some (ints (dks t u)) := by
  unfold merkle_differ
  by_cases h : t.root = u.root
  · have e : dks t u = [] := by
      unfold dks
      exact filter_none fun k _ => by simp [dk, h]
    rw [if_pos h, e]
    rfl
  · rw [if_neg h]
    have := differ1 t u 16 0 [] (by omega) (by simp)
    rw [show ((0 : Nat) : Int) = 0 from rfl] at this
    rw [this]
    unfold dks
    rw [List.range_eq_range']
    rw [show 256 * 0 = 0 from rfl, show 256 * 16 = 4096 from rfl]
    have e : (List.range' 0 4096).filter (f1 t u) = (List.range' 0 4096).filter (dk t u) := List.filter_congr fun q hq' => by
      unfold dk f1 f2 f3
      rw [show (t.root != u.root) = true by simp [h], Bool.true_and]
    rw [e, List.nil_append]

/-! ### Spans -/
/-- A key more. -/
def addK (l : List api_Span) (k : Nat) : List api_Span :=
  if 0 < l.length ∧ (l.getD (l.length - 1) api_Span.z).Hi = (k : Int) then l.set (l.length - 1) ⟨(l.getD (l.length - 1) api_Span.z).Lo, (k : Int) + 1⟩ else l ++ [⟨(k : Int), (k : Int) + 1⟩]
def cutS (l : List api_Span) : List api_Span :=
  if h : 64 < l.length then cutS ((l.set (l.length - 2) ⟨(l.getD (l.length - 2) api_Span.z).Lo, (l.getD (l.length - 1) api_Span.z).Hi⟩).take (l.length - 1)) else l
termination_by l.length
decreasing_by simp only [List.length_take, List.length_set]; omega
def spansK (ks : List Nat) : List api_Span := cutS (ks.foldl addK [])
theorem addK_length (l : List api_Span) (k : Nat) : (addK l k).length ≤ l.length + 1 := by
  unfold addK
  split
  · simp
  · simp
theorem ints_at {ks : List Nat} {i : Nat} (hi : i < ks.length) : (ints ks).getD (i : Int).toNat 0 = ((ks.getD i 0 : Nat) : Int) := by
  show (ks.map (fun k : Nat => (k : Int))).getD i 0 = _
  rw [List.getD_eq_getElem?_getD, List.getElem?_map, List.getElem?_eq_getElem hi]
  rw [List.getD_eq_getElem?_getD, List.getElem?_eq_getElem hi]
  rfl
/-! ### merkle.Diff -/
theorem DiffA_loop (ks : List Nat) (hk : ∀ k ∈ ks, k < 4096) (hks : ks.length ≤ 5000) : ∀ (m i : Nat) (l : List api_Span), i + m = ks.length → l.length + m ≤ 5000 →
    goLoop (merkle_Diff.step (ints ks)) (.l1 (i : Int) l) = goLoop (merkle_Diff.step (ints ks)) (.l2 ((ks.drop i).foldl addK l)) := by
  intro m
  induction m with
  | zero =>
    intro i l hi hl
    rw [loop_eq]
    simp only [merkle_Diff.step, merkle_Diff.l1, List.length_map]
    rw [if_neg (by omega), List.drop_eq_nil_of_le (by omega)]
    rfl
  | succ m ih =>
    intro i l hi hl
    have hw1 : IntKind.wrap .i64 ((l.length : Int) - 1) = (l.length : Int) - 1 := wr (by omega)
    have hw2 : IntKind.wrap .i64 ((i : Int) + 1) = ((i + 1 : Nat) : Int) := by rw [wr (by omega)]; omega
    have hki : ks.getD i 0 < 4096 := hk _ (by
      rw [List.getD_eq_getElem?_getD, List.getElem?_eq_getElem (by omega)]
      exact List.getElem_mem _)
    have hd : ks.drop i = ks.getD i 0 :: ks.drop (i + 1) := by
      rw [List.drop_eq_getElem_cons (by omega)]
      simp [show i < ks.length by omega]
    have hat := ints_at (ks := ks) (i := i) (by omega)
    rw [loop_eq]
    simp only [merkle_Diff.step, merkle_Diff.l1, merkle_Diff.j1, List.length_map, hw1, hw2, hat]
    rw [hd, List.foldl_cons]
    have hlen := addK_length l (ks.getD i 0)
    have hone := ih (i + 1) (addK l (ks.getD i 0)) (by omega) (by omega)
    clear hat hd
    generalize ks.getD i 0 = k at hki hlen hone ⊢
    have hw3 : IntKind.wrap .i64 ((k : Int) + 1) = (k : Int) + 1 := wr (by omega)
    rw [if_pos (by omega), if_pos (by omega)]
    have hadd : ¬ (0 < l.length ∧ (l.getD (l.length - 1) api_Span.z).Hi = (k : Int)) → addK l k = l ++ [⟨(k : Int), (k : Int) + 1⟩] := fun h => if_neg h
    by_cases h0 : 0 < l.length
    · have ht : ((l.length : Int) - 1).toNat = l.length - 1 := by omega
      rw [if_pos (by omega), if_pos (by omega), ht]
      by_cases hh : (l.getD (l.length - 1) api_Span.z).Hi = (k : Int)
      · rw [if_pos (by simp only [beq_iff_eq]; exact hh), if_pos (by omega), hh, hw3]
        simp only [stk]
        rw [show addK l k = l.set (l.length - 1) ⟨(l.getD (l.length - 1) api_Span.z).Lo, (k : Int) + 1⟩ from if_pos ⟨h0, hh⟩] at hone ⊢
        exact hone
      · rw [if_neg (by simp only [beq_iff_eq]; exact hh), if_pos (by omega), hw3]
        simp only [stk]
        rw [hadd (fun h => hh h.2)] at hone ⊢
        exact hone
    · rw [if_neg (by omega), if_neg (by decide), if_pos (by omega), hw3]
      simp only [stk]
      rw [hadd (fun h => h0 h.1)] at hone ⊢
      exact hone
theorem DiffA_cut (w : List Int) : ∀ (n : Nat) (l : List api_Span), l.length ≤ n → n ≤ 5000 → goLoop (merkle_Diff.step w) (.l2 l) = some (cutS l) := by
  intro n
  induction n with
  | zero =>
    intro l hl hn
    rw [loop_eq]
    simp only [merkle_Diff.step, merkle_Diff.l2]
    rw [if_neg (by omega), cutS, dif_neg (by omega)]
    rfl
  | succ n ih =>
    intro l hl hn
    have hw1 : IntKind.wrap .i64 ((l.length : Int) - 1) = (l.length : Int) - 1 := wr (by omega)
    rw [loop_eq]
    simp only [merkle_Diff.step, merkle_Diff.l2, hw1]
    rw [cutS]
    by_cases h : 64 < l.length
    · have hw2 : IntKind.wrap .i64 ((l.length : Int) - 1 - 1) = (l.length : Int) - 2 := by rw [wr (by omega)]; omega
      rw [dif_pos h, hw2, if_pos (by omega), if_pos (by omega), if_pos (by omega), if_pos (by rw [List.length_set]; omega)]
      rw [show ((l.length : Int) - 1).toNat = l.length - 1 by omega, show ((l.length : Int) - 2).toNat = l.length - 2 by omega]
      simp only [stk]
      exact ih _ (by simp only [List.length_take, List.length_set]; omega) (by omega)
    · rw [dif_neg h, if_neg (by omega)]
      rfl
theorem Diffn_loop (ks : List Nat) (hk : ∀ k ∈ ks, k < 4096) (hks : ks.length ≤ 5000) : ∀ (m i : Nat) (l : List api_Span), i + m = ks.length → l.length + m ≤ 5000 →
    goLoop (merkle_Diff_n0.step (ints ks)) (.l1 (i : Int) l) = goLoop (merkle_Diff_n0.step (ints ks)) (.l2 ((ks.drop i).foldl addK l)) := by
  intro m
  induction m with
  | zero =>
    intro i l hi hl
    rw [loop_eq]
    simp only [merkle_Diff_n0.step, merkle_Diff_n0.l1, List.length_map]
    rw [if_neg (by omega), List.drop_eq_nil_of_le (by omega)]
    rfl
  | succ m ih =>
    intro i l hi hl
    have hw1 : IntKind.wrap .i64 ((l.length : Int) - 1) = (l.length : Int) - 1 := wr (by omega)
    have hw2 : IntKind.wrap .i64 ((i : Int) + 1) = ((i + 1 : Nat) : Int) := by rw [wr (by omega)]; omega
    have hki : ks.getD i 0 < 4096 := hk _ (by
      rw [List.getD_eq_getElem?_getD, List.getElem?_eq_getElem (by omega)]
      exact List.getElem_mem _)
    have hd : ks.drop i = ks.getD i 0 :: ks.drop (i + 1) := by
      rw [List.drop_eq_getElem_cons (by omega)]
      simp [show i < ks.length by omega]
    have hat := ints_at (ks := ks) (i := i) (by omega)
    rw [loop_eq]
    simp only [merkle_Diff_n0.step, merkle_Diff_n0.l1, merkle_Diff_n0.j1, List.length_map, hw1, hw2, hat]
    rw [hd, List.foldl_cons]
    have hlen := addK_length l (ks.getD i 0)
    have hone := ih (i + 1) (addK l (ks.getD i 0)) (by omega) (by omega)
    clear hat hd
    generalize ks.getD i 0 = k at hki hlen hone ⊢
    have hw3 : IntKind.wrap .i64 ((k : Int) + 1) = (k : Int) + 1 := wr (by omega)
    rw [if_pos (by omega), if_pos (by omega)]
    have hadd : ¬ (0 < l.length ∧ (l.getD (l.length - 1) api_Span.z).Hi = (k : Int)) → addK l k = l ++ [⟨(k : Int), (k : Int) + 1⟩] := fun h => if_neg h
    by_cases h0 : 0 < l.length
    · have ht : ((l.length : Int) - 1).toNat = l.length - 1 := by omega
      rw [if_pos (by omega), if_pos (by omega), ht]
      by_cases hh : (l.getD (l.length - 1) api_Span.z).Hi = (k : Int)
      · rw [if_pos (by simp only [beq_iff_eq]; exact hh), if_pos (by omega), hh, hw3]
        simp only [stk]
        rw [show addK l k = l.set (l.length - 1) ⟨(l.getD (l.length - 1) api_Span.z).Lo, (k : Int) + 1⟩ from if_pos ⟨h0, hh⟩] at hone ⊢
        exact hone
      · rw [if_neg (by simp only [beq_iff_eq]; exact hh), if_pos (by omega), hw3]
        simp only [stk]
        rw [hadd (fun h => hh h.2)] at hone ⊢
        exact hone
    · rw [if_neg (by omega), if_neg (by decide), if_pos (by omega), hw3]
      simp only [stk]
      rw [hadd (fun h => h0 h.1)] at hone ⊢
      exact hone
theorem Diffn_cut (w : List Int) : ∀ (n : Nat) (l : List api_Span), l.length ≤ n → n ≤ 5000 → goLoop (merkle_Diff_n0.step w) (.l2 l) = some (cutS l) := by
  intro n
  induction n with
  | zero =>
    intro l hl hn
    rw [loop_eq]
    simp only [merkle_Diff_n0.step, merkle_Diff_n0.l2]
    rw [if_neg (by omega), cutS, dif_neg (by omega)]
    rfl
  | succ n ih =>
    intro l hl hn
    have hw1 : IntKind.wrap .i64 ((l.length : Int) - 1) = (l.length : Int) - 1 := wr (by omega)
    rw [loop_eq]
    simp only [merkle_Diff_n0.step, merkle_Diff_n0.l2, hw1]
    rw [cutS]
    by_cases h : 64 < l.length
    · have hw2 : IntKind.wrap .i64 ((l.length : Int) - 1 - 1) = (l.length : Int) - 2 := by rw [wr (by omega)]; omega
      rw [dif_pos h, hw2, if_pos (by omega), if_pos (by omega), if_pos (by omega), if_pos (by rw [List.length_set]; omega)]
      rw [show ((l.length : Int) - 1).toNat = l.length - 1 by omega, show ((l.length : Int) - 2).toNat = l.length - 2 by omega]
      simp only [stk]
      exact ih _ (by simp only [List.length_take, List.length_set]; omega) (by omega)
    · rw [dif_neg h, if_neg (by omega)]
      rfl
theorem foldl_addK_length : ∀ (ks : List Nat) (l : List api_Span), (ks.foldl addK l).length ≤ l.length + ks.length
  | [], l => by simp
  | k :: ks, l => by
    rw [List.foldl_cons]
    have h1 := foldl_addK_length ks (addK l k)
    have h2 := addK_length l k
    simp only [List.length_cons]
    omega
theorem dks_lt {t u : merkle_Tree} : ∀ k ∈ dks t u, k < 4096 := fun k hk => List.mem_range.1 (List.mem_filter.1 hk).1
theorem dks_len (t u : merkle_Tree) : (dks t u).length ≤ 4096 := by
  have := List.length_filter_le (dk t u) (List.range 4096)
  rw [List.length_range] at this
  exact this
theorem Diff_eq (t u : merkle_Tree) : merkle_Diff t u = some (spansK (dks t u)) := by
  unfold merkle_Diff
  rw [differ_eq]
  simp only [Option.bind_some]
  have h1 := DiffA_loop (dks t u) dks_lt (by have := dks_len t u; omega) (dks t u).length 0 [] (by omega) (by have := dks_len t u; simp; omega)
  rw [show ((0 : Nat) : Int) = 0 from rfl] at h1
  rw [h1, List.drop_zero]
  have h2 := foldl_addK_length (dks t u) []
  have h3 := dks_len t u
  exact DiffA_cut _ 5000 _ (by simp only [List.length_nil] at h2; omega) (by omega)
theorem some_n0 : ∃ t, merkle_Tree_some_n0 = some t ∧ Inv t ∧ ∀ k, k < 4096 → t.cells k = ⟨0, false⟩ := by
  obtain ⟨t, h1, h2⟩ := empty_eq
  exact ⟨t, by unfold merkle_Tree_some_n0; rw [h1]; rfl, h2⟩
theorem Diff_n0_eq {t : merkle_Tree} (ht : merkle_Tree_some_n0 = some t) (u : merkle_Tree) : merkle_Diff_n0 u = some (spansK (dks t u)) := by
  unfold merkle_Diff_n0
  rw [ht]
  simp only [Option.bind_some]
  rw [differ_eq]
  simp only [Option.bind_some]
  have h1 := Diffn_loop (dks t u) dks_lt (by have := dks_len t u; omega) (dks t u).length 0 [] (by omega) (by have := dks_len t u; simp; omega)
  rw [show ((0 : Nat) : Int) = 0 from rfl] at h1
  rw [h1, List.drop_zero]
  have h2 := foldl_addK_length (dks t u) []
  have h3 := dks_len t u
  exact Diffn_cut _ 5000 _ (by simp only [List.length_nil] at h2; omega) (by omega)

/-! ### The reference's Diff -/
theorem lv3 (t : merkle_Tree) : (lv t).getD 3 [] = [t.root] := rfl
theorem lv2 (t : merkle_Tree) : (lv t).getD 2 [] = winL t.mid 0 16 := rfl
theorem lv1 (t : merkle_Tree) : (lv t).getD 1 [] = winL t.low 0 256 := rfl
theorem lv0 (t : merkle_Tree) : (lv t).getD 0 [] = winL t.leaf 0 4096 := by simp only [lv, List.getD_cons_zero]
theorem lvl (t : merkle_Tree) : (lv t).length = 4 := rfl
theorem map_getD {l : List api_Span} {i : Nat} (h : i < l.length) : (l.map toR).getD i spliceref03_Span.z = toR (l.getD i api_Span.z) := by
  rw [List.getD_eq_getElem?_getD, List.getElem?_map, List.getElem?_eq_getElem h]
  rw [List.getD_eq_getElem?_getD, List.getElem?_eq_getElem h]
  rfl
theorem RDiff_one (t u : merkle_Tree) (k : Nat) (l : List api_Span) (hk : k < 4096) (hl : l.length ≤ 4096) :
    goLoop (spliceref20_Diff.step (lv t) (lv u)) (.l1 (k : Int) (l.map toR)) = goLoop (spliceref20_Diff.step (lv t) (lv u)) (.l1 ((k + 1 : Nat) : Int) ((if dk t u k = true then addK l k else l).map toR)) := by
  have hw1 : IntKind.wrap .i64 ((k : Int) + 1) = ((k + 1 : Nat) : Int) := by rw [wr (by omega)]; omega
  have hw2 : IntKind.wrap .i64 (Int.tdiv (k : Int) 256) = ((k / 256 : Nat) : Int) := by rw [Int.tdiv_eq_ediv_of_nonneg (by omega), wr (by omega)]; omega
  have hw3 : IntKind.wrap .i64 (Int.tdiv (k : Int) 16) = ((k / 16 : Nat) : Int) := by rw [Int.tdiv_eq_ediv_of_nonneg (by omega), wr (by omega)]; omega
  have hw4 : IntKind.wrap .i64 ((l.length : Int) - 1) = (l.length : Int) - 1 := wr (by omega)
  rw [loop_eq]
  simp only [spliceref20_Diff.step, spliceref20_Diff.l1, spliceref20_Diff.j1, lv3, lv2, lv1, lv0, lvl, winL_length, hw1, hw2, hw3, List.length_map, hw4, Int.toNat_natCast, List.length_cons, List.length_nil]
  rw [winL_get _ _ _ (show k / 256 < 16 by omega), winL_get _ _ _ (show k / 256 < 16 by omega), winL_get _ _ _ (show k / 16 < 256 by omega), winL_get _ _ _ (show k / 16 < 256 by omega), winL_get _ _ _ (show k < 4096 by omega), winL_get _ _ _ (show k < 4096 by omega)]
  simp only [Nat.zero_add]
  rw [if_pos (by omega), if_pos (by omega), if_pos (by omega), if_pos (by omega), if_pos (by omega)]
  have hdk : dk t u k = (t.root != u.root && (t.mid (k / 256) != u.mid (k / 256) && (t.low (k / 16) != u.low (k / 16) && t.leaf k != u.leaf k))) := rfl
  show stk (if t.root = u.root then _ else _) _ = _
  by_cases h3 : t.root = u.root
  · rw [if_pos h3, if_pos trivial, hdk, h3]
    simp [stk]
  rw [if_neg h3, if_pos (by omega), if_pos (by omega), if_pos (by omega), if_pos (by omega)]
  by_cases h2 : t.mid (k / 256) = u.mid (k / 256)
  · rw [if_pos h2, if_pos trivial, hdk, h2]
    simp [stk]
  rw [if_neg h2, if_pos (by omega), if_pos (by omega), if_pos (by omega), if_pos (by omega)]
  by_cases h1 : t.low (k / 16) = u.low (k / 16)
  · rw [if_pos h1, if_pos trivial, hdk, h1]
    simp [stk]
  rw [if_neg h1, if_pos (by omega), if_pos (by omega), if_pos (by omega), if_pos (by omega)]
  by_cases h0 : t.leaf k = u.leaf k
  · rw [if_pos (by simp [h0]), hdk, h0]
    simp [stk]
  rw [if_neg (by simp [h0]), hdk, show (t.root != u.root && (t.mid (k / 256) != u.mid (k / 256) && (t.low (k / 16) != u.low (k / 16) && t.leaf k != u.leaf k))) = true by simp [h0, h1, h2, h3], if_pos rfl]
  have hadd : ¬ (0 < l.length ∧ (l.getD (l.length - 1) api_Span.z).Hi = (k : Int)) → addK l k = l ++ [⟨(k : Int), (k : Int) + 1⟩] := fun h => if_neg h
  by_cases hp : 0 < l.length
  · have ht : ((l.length : Int) - 1).toNat = l.length - 1 := by omega
    rw [if_pos (by omega), if_pos (by omega), ht, map_getD (by omega)]
    simp only [spliceref20_Diff.j2, spliceref20_Diff.j3, hw1, List.length_map, hw4, ht]
    rw [map_getD (by omega)]
    by_cases hh : (l.getD (l.length - 1) api_Span.z).Hi = (k : Int)
    · rw [if_pos (by simp only [beq_iff_eq]; exact hh), if_pos (by omega), show addK l k = l.set (l.length - 1) ⟨(l.getD (l.length - 1) api_Span.z).Lo, (k : Int) + 1⟩ from if_pos ⟨hp, hh⟩, List.map_set]
      rfl
    · rw [if_neg (by simp only [beq_iff_eq]; exact hh), if_pos (by omega), hadd (fun h => hh h.2), List.map_append]
      rfl
  · rw [if_neg (by omega)]
    simp only [spliceref20_Diff.j2, spliceref20_Diff.j3, hw1, List.length_map]
    rw [if_neg (by decide), if_pos (by omega), hadd (fun h => hp h.1), List.map_append]
    rfl
theorem RDiff_loop (t u : merkle_Tree) : ∀ (m k : Nat) (l : List api_Span), k + m = 4096 → l.length ≤ k →
    goLoop (spliceref20_Diff.step (lv t) (lv u)) (.l1 (k : Int) (l.map toR)) = goLoop (spliceref20_Diff.step (lv t) (lv u)) (.l2 ((((List.range' k m).filter (dk t u)).foldl addK l).map toR)) := by
  intro m
  induction m with
  | zero =>
    intro k l hk hl
    rw [loop_eq]
    simp only [spliceref20_Diff.step, spliceref20_Diff.l1]
    rw [if_neg (by omega)]
    rfl
  | succ m ih =>
    intro k l hk hl
    rw [RDiff_one t u k l (by omega) (by omega), List.range'_succ]
    by_cases h : dk t u k = true
    · rw [if_pos h, List.filter_cons_of_pos h, List.foldl_cons]
      exact ih (k + 1) _ (by omega) (by have := addK_length l k; omega)
    · rw [if_neg h, List.filter_cons_of_neg h]
      exact ih (k + 1) _ (by omega) (by omega)
theorem RDiff_cut (x y : List (List Int)) : ∀ (n : Nat) (l : List api_Span), l.length ≤ n → n ≤ 5000 → goLoop (spliceref20_Diff.step x y) (.l2 (l.map toR)) = some ((cutS l).map toR) := by
  intro n
  induction n with
  | zero =>
    intro l hl hn
    rw [loop_eq]
    simp only [spliceref20_Diff.step, spliceref20_Diff.l2, List.length_map]
    rw [if_neg (by omega), cutS, dif_neg (by omega)]
    rfl
  | succ n ih =>
    intro l hl hn
    have hw1 : IntKind.wrap .i64 ((l.length : Int) - 1) = (l.length : Int) - 1 := wr (by omega)
    have hw2 : IntKind.wrap .i64 ((l.length : Int) - 2) = (l.length : Int) - 2 := wr (by omega)
    rw [loop_eq]
    simp only [spliceref20_Diff.step, spliceref20_Diff.l2, List.length_map, hw1, hw2]
    rw [cutS]
    by_cases h : 64 < l.length
    · rw [dif_pos h, if_pos (by omega), if_pos (by omega), if_pos (by omega), if_pos (by rw [List.length_set, List.length_map]; omega)]
      rw [show ((l.length : Int) - 1).toNat = l.length - 1 by omega, show ((l.length : Int) - 2).toNat = l.length - 2 by omega, map_getD (by omega), map_getD (by omega)]
      simp only [stk]
      rw [← ih _ (by simp only [List.length_take, List.length_set]; omega) (by omega), List.map_take, List.map_set]
      rfl
    · rw [dif_neg h, if_neg (by omega)]
      rfl
theorem RDiff_eq (t u : merkle_Tree) : spliceref20_Diff (lv t) (lv u) = some ((spansK (dks t u)).map toR) := by
  unfold spliceref20_Diff
  have h1 := RDiff_loop t u 4096 0 [] (by omega) (by simp)
  rw [show ((0 : Nat) : Int) = 0 from rfl, List.map_nil, ← List.range_eq_range'] at h1
  rw [h1]
  have h2 := foldl_addK_length (dks t u) []
  have h3 := dks_len t u
  exact RDiff_cut _ _ 5000 _ (by unfold dks at h2 h3; simp only [List.length_nil] at h2; omega) (by omega)
end Go.SyP
