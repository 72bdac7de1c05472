/- All numbers of a table, as the reference has them, are those of the tree. -/
import Derived.Test.YtckflmadcnfpeaaP20M
set_option linter.unusedVariables false
set_option linter.unusedSimpArgs false
namespace Go.SyP
open Go Go.Sy Go.Crc

theorem getD_set {α : Type} (L : List α) (n k : Nat) (v z : α) (hn : n < L.length) : (L.set n v).getD k z = if k = n then v else L.getD k z := by
  rw [List.getD_eq_getElem?_getD, List.getD_eq_getElem?_getD, List.getElem?_set]
  by_cases h : k = n
  · subst h; simp [hn]
  · simp [h, Ne.symm h]
theorem getD_app {α : Type} (L : List α) (v z : α) (k : Nat) (hk : k < L.length) : (L ++ [v]).getD k z = L.getD k z := by
  rw [List.getD_eq_getElem?_getD, List.getD_eq_getElem?_getD, List.getElem?_append_left hk]
theorem Leaves_eq (a : List api_Pair) (hn : a.length ≤ 5000) (h : Tb a) : ∃ L, spliceref20_Leaves (a.map tr) = some L ∧ L.length = 4096 ∧ ∀ k : Nat, k < 4096 → L.getD k 0 = num (cellO (look a (k : Int))) := by
  unfold spliceref20_Leaves
  obtain ⟨r, ⟨hr1, hr2⟩, e1⟩ := for_go (step := spliceref20_Leaves.step (a.map tr)) (n := 4096) (fun i x => spliceref20_Leaves.S.l1 (i : Int) x) (fun i x => x.length = i ∧ ∀ k, k < i → x.getD k 0 = 0) (by
    rintro i x hi ⟨h1, h2⟩
    refine ⟨x ++ [0], ?_, by simp [h1], fun k hk => ?_⟩
    · simp only [spliceref20_Leaves.step, spliceref20_Leaves.l1]
      rw [if_pos (by omega), if_pos (by omega), wr1 (n := 4096) hi (by omega)]
    · by_cases e : k < i
      · rw [getD_app _ _ _ _ (by omega)]; exact h2 k e
      · rw [List.getD_eq_getElem?_getD, List.getElem?_append_right (by omega), show k - x.length = 0 by omega]; rfl) 0 [] (by omega) ⟨rfl, fun k hk => by omega⟩
  rw [show (spliceref20_Leaves.S.l1 0 ([] : List Int)) = spliceref20_Leaves.S.l1 ((0 : Nat) : Int) [] from rfl, e1, loop_eq]
  simp only [spliceref20_Leaves.step, spliceref20_Leaves.l1]
  rw [if_neg (by omega)]
  simp only [stk]
  obtain ⟨L, ⟨hL1, hL2⟩, e2⟩ := for_go (step := spliceref20_Leaves.step (a.map tr)) (n := a.length) (fun i x => spliceref20_Leaves.S.l2 (i : Int) x) (fun i x => x.length = 4096 ∧ ∀ k : Nat, k < 4096 → x.getD k 0 = num (cellO (look (a.take i) (k : Int)))) (by
    rintro i x hi ⟨h1, h2⟩
    have hx : a.getD (i : Int).toNat api_Pair.z ∈ a := by
      rw [List.getD_eq_getElem?_getD, List.getElem?_eq_getElem (by omega)]
      exact List.getElem_mem _
    have ht := take_atI (l := a) (z := api_Pair.z) hi
    have hok := h.ok _ hx
    have hne : ∀ y ∈ a.take i, y.Key ≠ (a.getD (i : Int).toNat api_Pair.z).Key := by
      intro y hy
      have : Tb (a.take (i + 1)) := by
        have := h; rw [← List.take_append_drop (i + 1) a] at this; exact tb_take this
      rw [ht] at this
      have := (tb_snoc.1 this).2.2 y hy
      omega
    simp only [spliceref20_Leaves.step, spliceref20_Leaves.l2, List.length_map]
    rw [if_pos (by omega), if_pos (by omega), tr_at a hi]
    generalize a.getD (i : Int).toNat api_Pair.z = X at ht hok hne ⊢
    obtain ⟨n, hn'⟩ := Int.eq_ofNat_of_zero_le hok.1
    have hlt : n < 4096 := by have := hok.2.1; omega
    have hN := NumberR_eq ⟨X.Val, true⟩
    simp only [tr]
    rw [hN]
    simp only [Option.bind_some]
    refine ⟨x.set n (num ⟨X.Val, true⟩), ?_, by simp [h1], fun k hk => ?_⟩
    · refine (if_pos (show 0 ≤ X.Key ∧ X.Key < (x.length : Int) by omega)).trans ?_
      rw [wr1 hi (by omega), show X.Key.toNat = n by omega]
    rw [getD_set _ _ _ _ _ (by omega), ht, look_snoc hne, hn']
    by_cases e : k = n
    · subst e; rw [if_pos rfl, if_pos rfl]; rfl
    · rw [if_neg e, if_neg (by omega)]; exact h2 k hk) 0 r (by omega) ⟨hr1, fun k hk => by rw [hr2 k hk]; rfl⟩
  rw [show (spliceref20_Leaves.S.l2 0 r) = spliceref20_Leaves.S.l2 ((0 : Nat) : Int) r from rfl, e2, loop_eq]
  simp only [spliceref20_Leaves.step, spliceref20_Leaves.l2, List.length_map]
  rw [if_neg (by omega)]
  rw [take_all (Nat.le_refl _)] at hL2
  exact ⟨L, rfl, hL1, hL2⟩

theorem eq_win {L : List Int} {x : Nat → Int} {n : Nat} (hl : L.length = n) (h : ∀ k, k < n → L.getD k 0 = x k) : L = winL x 0 n := by
  apply List.ext_getElem
  · rw [winL_length, hl]
  · intro i h1 h2
    have := h i (by omega)
    rw [List.getD_eq_getElem?_getD, List.getElem?_eq_getElem h1] at this
    simp only [Option.getD_some] at this
    rw [this]
    simp [winL]
def abv (l : List Int) (q : Nat) : Int := ov ((l.drop (16 * q)).take 16)
theorem zeros_of {l : List Int} {n : Nat} (hl : l.length = n) (h : l.all (· == 0) = true) : l = List.replicate n 0 := by
  rw [List.eq_replicate_iff]
  refine ⟨hl, fun b hb => ?_⟩
  have := List.all_eq_true.1 h b hb
  simpa using this
theorem Above_in (l : List Int) (m i : Nat) (r : List Int) (hl : l.length = 16 * m) (hm : m ≤ 1000) (hi : i < m) (hr : r.length ≤ 1000) (h32 : ∀ k ∈ l, R32 k) :
    goLoop (spliceref20_Above.step l) (.l2 (ov (List.replicate 16 0)) ((16 * i : Nat) : Int) r) = goLoop (spliceref20_Above.step l) (.l2 (ov (List.replicate 16 0)) ((16 * (i + 1) : Nat) : Int) (r ++ [abv l i])) := by
  have hw : IntKind.wrap .i64 (((16 * i : Nat) : Int) + 16) = ((16 * (i + 1) : Nat) : Int) := by rw [wr (by omega)]; omega
  rw [loop_eq]
  simp only [spliceref20_Above.step, spliceref20_Above.l2]
  rw [hw, if_pos (by omega)]
  simp only [stk]
  obtain ⟨b, hb, e⟩ := for_go (step := spliceref20_Above.step l) (n := 16) (fun q b => spliceref20_Above.S.l3 (ov (List.replicate 16 0)) ((16 * i : Nat) : Int) b ((16 * i + q : Nat) : Int) r) (fun q b => b = ((l.drop (16 * i)).take q).all (· == 0)) (by
    rintro q b hq hb
    refine ⟨((l.drop (16 * i)).take (q + 1)).all (· == 0), ?_, rfl⟩
    have hs : ((l.drop (16 * i)).take (q + 1)).all (· == 0) = (b && (l.getD ((16 * i + q : Nat) : Int).toNat 0 == 0)) := by
      rw [take_at (z := (0 : Int)) (by rw [List.length_drop]; omega), List.all_append, ← hb]
      simp only [List.all_cons, List.all_nil, Bool.and_true]
      congr 2
      rw [List.getD_eq_getElem?_getD, List.getD_eq_getElem?_getD, List.getElem?_drop]
      rfl
    have hw2 : IntKind.wrap .i64 (((16 * i + q : Nat) : Int) + 1) = ((16 * i + (q + 1) : Nat) : Int) := by rw [wr (by omega)]; omega
    rw [hs]
    simp only [spliceref20_Above.step, spliceref20_Above.l3]
    rw [hw, if_pos (by omega)]
    cases b
    · rw [if_neg (by decide)]
      simp only [spliceref20_Above.j2, hw2, Bool.false_and]
    · rw [if_pos rfl, if_pos (by omega)]
      simp only [spliceref20_Above.j2, hw2, Bool.true_and]) 0 true (by omega) rfl
  rw [show (((16 * i : Nat) : Int)) = ((16 * i + 0 : Nat) : Int) from rfl] at *
  rw [e, loop_eq]
  simp only [spliceref20_Above.step, spliceref20_Above.l3]
  rw [hw, if_neg (by omega)]
  have h16 : ((l.drop (16 * i)).take 16).length = 16 := by rw [List.length_take, List.length_drop]; omega
  cases b
  · rw [if_neg (by decide), if_pos (by omega)]
    rw [show (((16 * (i + 1) : Nat) : Int)).toNat - ((16 * i + 0 : Nat) : Int).toNat = 16 by omega, show ((16 * i + 0 : Nat) : Int).toNat = 16 * i by omega]
    rw [ovr_eq _ (fun k hk => h32 k (List.mem_of_mem_drop (List.mem_of_mem_take hk))) (by omega)]
    simp only [Option.bind_some]
    rw [if_pos (by omega)]
    simp only [spliceref20_Above.j1, hw, stk]
    rfl
  · rw [if_pos rfl, if_pos (by omega)]
    simp only [spliceref20_Above.j1, hw, stk]
    rw [show abv l i = ov (List.replicate 16 0) from congrArg ov (zeros_of h16 hb.symm)]
theorem Above_eq (l : List Int) (m : Nat) (hl : l.length = 16 * m) (hm : m ≤ 1000) (h32 : ∀ k ∈ l, R32 k) : spliceref20_Above l = some ((List.range m).map (abv l)) := by
  unfold spliceref20_Above
  obtain ⟨r, hr, e⟩ := for_go (step := spliceref20_Above.step l) (n := 16) (fun q b => spliceref20_Above.S.l1 (q : Int) b) (fun q b => b = List.replicate q 0) (by
    rintro q b hq rfl
    refine ⟨List.replicate (q + 1) 0, ?_, rfl⟩
    simp only [spliceref20_Above.step, spliceref20_Above.l1, List.length_replicate]
    rw [if_pos (by omega), if_pos (by omega), wr1 (n := 16) hq (by omega), List.replicate_succ']) 0 [] (by omega) rfl
  rw [show (spliceref20_Above.S.l1 0 ([] : List Int)) = spliceref20_Above.S.l1 ((0 : Nat) : Int) [] from rfl, e, loop_eq]
  simp only [spliceref20_Above.step, spliceref20_Above.l1]
  subst hr
  rw [if_neg (by omega), ovr_eq _ (fun k hk => by rw [List.eq_of_mem_replicate hk]; exact zero_rng) (by simp)]
  simp only [Option.bind_some, stk]
  have key : ∀ j i, i + j = m → goLoop (spliceref20_Above.step l) (.l2 (ov (List.replicate 16 0)) ((16 * i : Nat) : Int) ((List.range i).map (abv l))) = some ((List.range m).map (abv l)) := by
    intro j
    induction j with
    | zero =>
      intro i hi
      obtain rfl : i = m := by omega
      rw [loop_eq]
      simp only [spliceref20_Above.step, spliceref20_Above.l2]
      rw [wr (by omega), if_neg (by omega)]
      rfl
    | succ j ih =>
      intro i hi
      rw [Above_in l m i _ hl hm (by omega) (by simp; omega) h32, show (List.range i).map (abv l) ++ [abv l i] = (List.range (i + 1)).map (abv l) by rw [List.range_succ, List.map_append]; rfl]
      exact ih (i + 1) (by omega)
  exact key m 0 (by omega)
theorem win_cut (x : Nat → Int) (n q : Nat) (h : 16 * q + 16 ≤ n) : ((winL x 0 n).drop (16 * q)).take 16 = winL x (16 * q) 16 := by
  apply List.ext_getElem
  · rw [List.length_take, List.length_drop, winL_length, winL_length]; omega
  · intro i h1 h2
    simp [winL, List.getElem_take, List.getElem_drop]
/-- All numbers of a tree. -/
def lv (t : merkle_Tree) : List (List Int) := [winL t.leaf 0 4096, winL t.low 0 256, winL t.mid 0 16, [t.root]]
theorem abv_win (x y : Nat → Int) (m : Nat) (hx : ∀ k, k < 16 * m → R32 (x k)) (hm : m ≤ 1000) (hy : ∀ i, i < m → y i = ov (winL x (16 * i) 16)) : spliceref20_Above (winL x 0 (16 * m)) = some (winL y 0 m) := by
  rw [Above_eq _ m (by rw [winL_length]) hm (fun k hk => by obtain ⟨j, h1, rfl⟩ := win_mem hk; exact hx _ (by omega))]
  congr 1
  unfold winL
  apply List.map_congr_left
  intro i hi
  have hi := List.mem_range.1 hi
  rw [Nat.zero_add, hy i hi]
  unfold abv
  exact congrArg ov (win_cut x _ i (by omega))
theorem levels_eq (a : List api_Pair) (hn : a.length ≤ 5000) (h : Tb a) {t : merkle_Tree} (ht : Inv t) (hc : ∀ k : Nat, k < 4096 → t.cells k = cellO (look a (k : Int))) : splicelaw20_levels a = some (lv t) := by
  unfold splicelaw20_levels
  rw [Refs5_eq a hn]
  simp only [Option.bind_some]
  unfold spliceref20_Levels
  obtain ⟨L, e, hL1, hL2⟩ := Leaves_eq a hn h
  rw [e, eq_win (x := t.leaf) hL1 (fun k hk => by rw [hL2 k hk, ht.leaf k hk, hc k hk])]
  simp only [Option.bind_some]
  rw [show (4096 : Nat) = 16 * 256 from rfl, abv_win t.leaf t.low 256 (fun k hk => ht.rng1 k (by omega)) (by omega) ht.low]
  simp only [Option.bind_some]
  rw [show winL t.low 0 256 = winL t.low 0 (16 * 16) from rfl, abv_win t.low t.mid 16 (fun k hk => ht.rng2 k (by omega)) (by omega) ht.mid]
  simp only [Option.bind_some]
  rw [show winL t.mid 0 16 = winL t.mid 0 (16 * 1) from rfl, abv_win t.mid (fun _ => t.root) 1 (fun k hk => ht.rng3 k (by omega)) (by omega) (fun i hi => by
    have h0 : i = 0 := by omega
    subst h0
    exact ht.root)]
  rfl
end Go.SyP
