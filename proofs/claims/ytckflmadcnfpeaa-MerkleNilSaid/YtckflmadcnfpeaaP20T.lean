/- The laws MerkleNumbers and MerkleSets. -/
import Derived.Test.YtckflmadcnfpeaaP20S
set_option linter.unusedVariables false
set_option linter.unusedSimpArgs false
namespace Go.SyP
open Go Go.Sy Go.Crc

theorem isKey_eq (k : Int) : merkle_isKey k = decide (0 ≤ k ∧ k < 4096) := by
  unfold merkle_isKey merkle_isKey.j1
  by_cases h : k ≥ 0
  · rw [if_pos h]
    by_cases h2 : k < 4096
    · rw [decide_eq_true h2, decide_eq_true ⟨h, h2⟩]
    · rw [decide_eq_false h2, decide_eq_false (fun h3 => h2 h3.2)]
  · rw [if_neg h, decide_eq_false (fun h3 => h h3.1)]
theorem Leaf_in (t : merkle_Tree) {k : Int} (h : 0 ≤ k ∧ k < 4096) : merkle_Tree_Leaf t k = some (t.leaf k.toNat, 0) := by
  unfold merkle_Tree_Leaf
  rw [isKey_eq, decide_eq_true h, if_pos rfl, if_pos h]
theorem Leaf_out (t : merkle_Tree) {k : Int} (h : ¬ (0 ≤ k ∧ k < 4096)) : merkle_Tree_Leaf t k = some (0, 1) := by
  unfold merkle_Tree_Leaf
  rw [isKey_eq, decide_eq_false h, if_neg (by decide)]
theorem Node0 (t : merkle_Tree) (i : Int) : merkle_Tree_Node t 0 i = some (if 0 ≤ i ∧ i < 256 then (t.low i.toNat, 0) else (0, 1)) := by
  unfold merkle_Tree_Node
  rw [if_pos rfl]
  by_cases h : i < 0
  · rw [if_pos h, if_neg (by omega)]; rfl
  · rw [if_neg h]
    by_cases h2 : i ≥ 256
    · rw [decide_eq_true h2, if_neg (by omega)]; rfl
    · rw [decide_eq_false h2, if_pos (by omega)]
      unfold merkle_Tree_Node.j1
      rw [if_neg (by decide), if_pos (by omega)]
theorem Node1 (t : merkle_Tree) (i : Int) : merkle_Tree_Node t 1 i = some (if 0 ≤ i ∧ i < 16 then (t.mid i.toNat, 0) else (0, 1)) := by
  unfold merkle_Tree_Node
  rw [if_neg (by decide), if_pos rfl]
  by_cases h : i < 0
  · rw [if_pos h, if_neg (by omega)]; rfl
  · rw [if_neg h]
    by_cases h2 : i ≥ 16
    · rw [decide_eq_true h2, if_neg (by omega)]; rfl
    · rw [decide_eq_false h2, if_pos (by omega)]
      unfold merkle_Tree_Node.j2
      rw [if_neg (by decide), if_pos (by omega)]
theorem Node2 (t : merkle_Tree) (i : Int) : merkle_Tree_Node t 2 i = some (if 0 ≤ i ∧ i < 1 then (t.root, 0) else (0, 1)) := by
  unfold merkle_Tree_Node
  rw [if_neg (by decide), if_neg (by decide), if_pos rfl]
  by_cases h : i < 0
  · rw [if_pos h, if_neg (by omega)]; rfl
  · rw [if_neg h]
    simp only [List.length_cons, List.length_nil]
    by_cases h2 : i ≥ ((0 + 1 : Nat) : Int)
    · rw [decide_eq_true h2, if_neg (by omega)]; rfl
    · have : i = 0 := by omega
      subst this
      rfl
theorem NodeX (t : merkle_Tree) (l i : Int) (h0 : l ≠ 0) (h1 : l ≠ 1) (h2 : l ≠ 2) : merkle_Tree_Node t l i = some (0, 1) := by
  unfold merkle_Tree_Node
  rw [if_neg h0, if_neg h1, if_neg h2]
  by_cases h : i < 0
  · rw [if_pos h]; rfl
  · rw [if_neg h, decide_eq_true (show i ≥ 0 by omega)]; rfl
theorem Numbers_j6 (x : arr2_int) (t : merkle_Tree) : splicelaw20_MerkleNumbers.j6 x t (lv t) = some true := by
  unfold splicelaw20_MerkleNumbers.j6
  by_cases h : 0 ≤ x.i1 ∧ x.i1 < 4096
  · rw [Leaf_in t h]
    simp only [Option.bind_some]
    rw [if_neg (by omega), decide_eq_false (show ¬ x.i1 ≥ 4096 by omega)]
    unfold splicelaw20_MerkleNumbers.j7
    rw [if_neg (by decide), awake_eq]
    simp only [Option.bind_some]
    rw [if_pos trivial, if_pos trivial, if_pos (by rw [lvl]; omega), if_pos (by rw [lv0, winL_length]; omega), lv0, lv3, winL_get _ _ _ (show x.i1.toNat < 4096 by omega), Nat.zero_add, if_pos rfl, if_pos (by rw [lvl]; omega), if_pos (by simp)]
    simp [splicelaw20_MerkleNumbers.j9, merkle_Tree_Root]
  · rw [Leaf_out t h]
    simp only [Option.bind_some]
    have hj : splicelaw20_MerkleNumbers.j7 x t (lv t) (0, 1) true = some true := by
      unfold splicelaw20_MerkleNumbers.j7
      rw [if_pos rfl, awake_eq]
      rfl
    by_cases h0 : x.i1 < 0
    · rw [if_pos h0, hj]
    · rw [if_neg h0, decide_eq_true (show x.i1 ≥ 4096 by omega), hj]
theorem Numbers_bad (x : arr2_int) (t : merkle_Tree) : splicelaw20_MerkleNumbers.j3 x t (lv t) (0, 1) true = some true := by
  unfold splicelaw20_MerkleNumbers.j3
  rw [if_pos rfl, if_pos rfl]
  unfold splicelaw20_MerkleNumbers.j4
  rw [show ((1 : Int) != 1) = false by decide, if_neg (by decide)]
  exact Numbers_j6 x t
theorem Numbers_good (x : arr2_int) (t : merkle_Tree) (n : Int) (L : List Int) (m : Nat) (hm : IntKind.wrap .i64 (x.i0 + 1) = (m : Int)) (h4 : m < 4) (hL : (lv t).getD m [] = L) (hi : 0 ≤ x.i1 ∧ x.i1 < (L.length : Int)) (hn : L.getD x.i1.toNat 0 = n) : splicelaw20_MerkleNumbers.j3 x t (lv t) (n, 0) false = some true := by
  unfold splicelaw20_MerkleNumbers.j3
  rw [if_neg (by decide), if_pos rfl, hm, Int.toNat_natCast, hL, lvl, if_pos (by omega), if_pos hi, hn]
  unfold splicelaw20_MerkleNumbers.j5
  rw [show (n != n) = false by simp, if_neg (by decide)]
  exact Numbers_j6 x t
theorem splicelaw20_MerkleNumbers_true (a : List api_Pair) (x : arr2_int) (c : api_Cell) (w0 : WfP a) (w1 : (Lit.int .i64 x.i0).wf = true ∧ (Lit.int .i64 x.i1).wf = true) {p2 : Prop} (w2 : p2) : splicelaw20_MerkleNumbers a x c = some true := by
  unfold splicelaw20_MerkleNumbers
  by_cases fa : ¬ splicelaw20_few a = true
  · rw [if_neg fa, awake_eq]; rfl
  replace fa := Classical.not_not.1 fa
  have la := (few_eq a).1 fa
  rw [if_pos fa, Number_eq, NumberR_eq]
  simp only [Option.bind_some]
  rw [if_pos trivial, Refs5_eq a (by omega)]
  obtain ⟨r, hr1, hr2⟩ := ref5_Check_eq a w0.len
  simp only [Option.bind_some]
  rw [hr1]
  simp only [Option.bind_some]
  by_cases ha : ¬ Tb a
  · rw [New_bad a w0.len ha]
    simp only [Option.bind_some, optE]
    rw [if_neg (by rw [hr2]; exact ha), awake_eq]
    rfl
  replace ha := Classical.not_not.1 ha
  obtain ⟨t, e1, ht, hc⟩ := New_eq a w0.len ha
  rw [e1]
  simp only [Option.bind_some, optE]
  rw [if_pos (hr2.2 ha), if_pos trivial, levels_eq a (by omega) ha ht hc]
  simp only [Option.bind_some]
  have h0 := i64wf w1.1
  have hlv : ∀ n : Nat, n < 4 → 0 ≤ (n : Int) ∧ (n : Int) < ((lv t).length : Int) := fun n hn => by rw [lvl]; omega
  by_cases c0 : x.i0 = 0
  · rw [c0, Node0]
    simp only [Option.bind_some]
    rw [if_neg (by decide), if_neg (by decide), show IntKind.wrap .i64 (0 + 1) = ((1 : Nat) : Int) from rfl, Int.toNat_natCast, lv1, winL_length]
    by_cases hi : 0 ≤ x.i1 ∧ x.i1 < 256
    · rw [if_pos hi, if_neg (by omega), if_pos (hlv 1 (by omega)), decide_eq_false (by omega)]
      exact Numbers_good x t _ (winL t.low 0 256) 1 (by rw [c0]; rfl) (by omega) (lv1 t) (by rw [winL_length]; omega) (by rw [winL_get _ _ _ (by omega), Nat.zero_add])
    · rw [if_neg hi]
      by_cases hn : x.i1 < 0
      · rw [if_pos hn]; exact Numbers_bad x t
      · rw [if_neg hn, if_pos (hlv 1 (by omega)), decide_eq_true (by omega)]; exact Numbers_bad x t
  by_cases c1 : x.i0 = 1
  · rw [c1, Node1]
    simp only [Option.bind_some]
    rw [if_neg (by decide), if_neg (by decide), show IntKind.wrap .i64 (1 + 1) = ((2 : Nat) : Int) from rfl, Int.toNat_natCast, lv2, winL_length]
    by_cases hi : 0 ≤ x.i1 ∧ x.i1 < 16
    · rw [if_pos hi, if_neg (by omega), if_pos (hlv 2 (by omega)), decide_eq_false (by omega)]
      exact Numbers_good x t _ (winL t.mid 0 16) 2 (by rw [c1]; rfl) (by omega) (lv2 t) (by rw [winL_length]; omega) (by rw [winL_get _ _ _ (by omega), Nat.zero_add])
    · rw [if_neg hi]
      by_cases hn : x.i1 < 0
      · rw [if_pos hn]; exact Numbers_bad x t
      · rw [if_neg hn, if_pos (hlv 2 (by omega)), decide_eq_true (by omega)]; exact Numbers_bad x t
  by_cases c2 : x.i0 = 2
  · rw [c2, Node2]
    simp only [Option.bind_some]
    rw [if_neg (by decide), if_neg (by decide), show IntKind.wrap .i64 (2 + 1) = ((3 : Nat) : Int) from rfl, Int.toNat_natCast, lv3]
    by_cases hi : 0 ≤ x.i1 ∧ x.i1 < 1
    · have e0 : x.i1 = 0 := by omega
      rw [if_pos hi, if_neg (by omega), if_pos (hlv 3 (by omega)), decide_eq_false (by simp only [List.length_cons, List.length_nil]; omega)]
      exact Numbers_good x t _ [t.root] 3 (by rw [c2]; rfl) (by omega) (lv3 t) (by simp only [List.length_cons, List.length_nil]; omega) (by rw [e0]; rfl)
    · rw [if_neg hi]
      by_cases hn : x.i1 < 0
      · rw [if_pos hn]; exact Numbers_bad x t
      · rw [if_neg hn, if_pos (hlv 3 (by omega)), decide_eq_true (by simp only [List.length_cons, List.length_nil]; omega)]; exact Numbers_bad x t
  rw [NodeX t _ _ c0 c1 c2]
  simp only [Option.bind_some]
  by_cases hneg : x.i0 < 0
  · rw [if_pos hneg]; exact Numbers_bad x t
  · rw [if_neg hneg, if_pos (by omega)]; exact Numbers_bad x t

/-! ### Sets -/
def okC (c : api_Cell) : Prop := if c.Some = true then -1099511627776 ≤ c.Val ∧ c.Val ≤ 1099511627776 else c.Val = 0
theorem isCell_eq (c : api_Cell) : merkle_isCell c = true ↔ okC c := by
  unfold merkle_isCell merkle_isCell.j1 okC
  by_cases h : c.Some = true
  · rw [if_pos h, if_pos h]
    by_cases h2 : c.Val ≥ -1099511627776
    · rw [if_pos h2, decide_eq_true_iff]; omega
    · rw [if_neg h2]; simp; omega
  · rw [if_neg h, if_neg h, beq_iff_eq]
theorem Get_in (t : merkle_Tree) {k : Int} (h : 0 ≤ k ∧ k < 4096) : merkle_Tree_Get t k = some (t.cells k.toNat) := by
  unfold merkle_Tree_Get
  rw [isKey_eq, decide_eq_true h, if_pos rfl, if_pos h]
theorem Set_in (t : merkle_Tree) (ht : Inv t) {k : Int} (h : 0 ≤ k ∧ k < 4096) {c : api_Cell} (hc : okC c) : merkle_Tree_Set t k c = some (0, putT t k.toNat c) := by
  unfold merkle_Tree_Set
  rw [isKey_eq, decide_eq_true h, if_pos rfl, (isCell_eq c).2 hc]
  unfold merkle_Tree_Set.j1
  rw [Bool.not_true, if_neg (by decide)]
  obtain ⟨n, rfl⟩ := Int.eq_ofNat_of_zero_le h.1
  rw [put_eq t ht n c (by omega)]
  rfl
theorem Set_out (t : merkle_Tree) {k : Int} {c : api_Cell} (h : ¬ ((0 ≤ k ∧ k < 4096) ∧ okC c)) : merkle_Tree_Set t k c = some (1, t) := by
  unfold merkle_Tree_Set
  rw [isKey_eq]
  by_cases h1 : 0 ≤ k ∧ k < 4096
  · rw [decide_eq_true h1, if_pos rfl]
    have : merkle_isCell c = false := by
      cases e : merkle_isCell c
      · rfl
      · exact absurd ⟨h1, (isCell_eq c).1 e⟩ h
    rw [this]
    rfl
  · rw [decide_eq_false h1, if_neg (by decide)]
    rfl
/-- The pairs that there are. -/
def tabL (t : merkle_Tree) : List api_Pair := ((List.range 4096).filter fun k => (t.cells k).Some).map fun k : Nat => ⟨(k : Int), (t.cells k).Val⟩
theorem Table_eq (t : merkle_Tree) : merkle_Tree_Table t = some (tabL t) := by
  unfold merkle_Tree_Table
  obtain ⟨r, h1, h2⟩ := for_go (step := merkle_Tree_Table.step t) (n := 4096) (fun i x => merkle_Tree_Table.S.l1 (i : Int) x) (fun i x => x = ((List.range i).filter fun k => (t.cells k).Some).map fun k : Nat => ⟨(k : Int), (t.cells k).Val⟩) (by
    rintro i x hi hx
    have hl : x.length ≤ i := by
      rw [hx, List.length_map]
      have := List.length_filter_le (fun k => (t.cells k).Some) (List.range i)
      rwa [List.length_range] at this
    have hw := wr1 (n := 4096) hi (by omega)
    refine ⟨((List.range (i + 1)).filter fun k => (t.cells k).Some).map fun k : Nat => ⟨(k : Int), (t.cells k).Val⟩, ?_, rfl⟩
    simp only [merkle_Tree_Table.step, merkle_Tree_Table.l1, merkle_Tree_Table.j1, Int.toNat_natCast, hw]
    rw [if_pos (by omega), if_pos (by omega), List.range_succ, List.filter_append, List.map_append, ← hx]
    by_cases h : (t.cells i).Some = true
    · rw [if_pos h, if_pos (by omega), List.filter_cons_of_pos (p := fun k => (t.cells k).Some) (a := i) h]; rfl
    · rw [if_neg h, List.filter_cons_of_neg (p := fun k => (t.cells k).Some) (a := i) h]; simp) 0 [] (by omega) rfl
  rw [show (merkle_Tree_Table.S.l1 0 ([] : List api_Pair)) = merkle_Tree_Table.S.l1 ((0 : Nat) : Int) [] from rfl, h2, loop_eq]
  simp only [merkle_Tree_Table.step, merkle_Tree_Table.l1]
  rw [if_neg (by omega), h1]
  rfl
theorem up_map (q : Nat → Bool) (v : Nat → Int) (n : Nat) : Up (((List.range n).filter q).map fun k : Nat => ⟨(k : Int), v k⟩) := by
  unfold Up
  rw [List.pairwise_map]
  refine List.Pairwise.imp ?_ (List.Pairwise.sublist List.filter_sublist List.pairwise_lt_range)
  intro a b h
  show (a : Int) < (b : Int)
  omega
theorem tabL_tb {t : merkle_Tree} (h : ∀ k, k < 4096 → okC (t.cells k)) : Tb (tabL t) := by
  refine ⟨fun x hx => ?_, up_map _ (fun k => (t.cells k).Val) 4096⟩
  obtain ⟨k, hk, rfl⟩ := List.mem_map.1 hx
  have hk1 := List.mem_filter.1 hk
  have hk2 := List.mem_range.1 hk1.1
  have := h k hk2
  unfold okC at this
  rw [if_pos hk1.2] at this
  exact ⟨by show (0 : Int) ≤ k; omega, by show (k : Int) < 4096; omega, this⟩
theorem tabL_len (t : merkle_Tree) : (tabL t).length ≤ 4096 := by
  unfold tabL
  rw [List.length_map]
  have := List.length_filter_le (fun k => (t.cells k).Some) (List.range 4096)
  rwa [List.length_range] at this
theorem tabL_look {t : merkle_Tree} (h : ∀ k, k < 4096 → okC (t.cells k)) {k : Nat} (hk : k < 4096) : cellO (look (tabL t) (k : Int)) = t.cells k := by
  have hok := h k hk
  unfold okC at hok
  by_cases hs : (t.cells k).Some = true
  · have hm : (⟨(k : Int), (t.cells k).Val⟩ : api_Pair) ∈ tabL t := List.mem_map.2 ⟨k, List.mem_filter.2 ⟨List.mem_range.2 hk, hs⟩, rfl⟩
    have := look_some (tabL_tb h).up hm
    simp only at this
    rw [this]
    show (⟨(t.cells k).Val, true⟩ : api_Cell) = t.cells k
    rw [← hs]
  · have hn : look (tabL t) (k : Int) = none := look_none fun x hx => by
      obtain ⟨j, hj, rfl⟩ := List.mem_map.1 hx
      have hj1 := List.mem_filter.1 hj
      intro e
      have e2 : j = k := by
        have : (j : Int) = (k : Int) := e
        omega
      subst e2
      exact hs hj1.2
    rw [hn]
    rw [if_neg hs] at hok
    show (⟨0, false⟩ : api_Cell) = t.cells k
    rw [← hok, ← show (t.cells k).Some = false by simpa using hs]
theorem cellO_ok {a : List api_Pair} (h : Tb a) (k : Int) : okC (cellO (look a k)) := by
  unfold okC cellO
  cases e : look a k with
  | none => rfl
  | some v =>
    have := look_ok h e
    exact this.2.2
end Go.SyP
