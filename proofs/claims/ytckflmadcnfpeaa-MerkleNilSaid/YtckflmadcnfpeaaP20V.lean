/- The law MerkleNil. -/
import Derived.Test.YtckflmadcnfpeaaP20U
set_option linter.unusedVariables false
set_option linter.unusedSimpArgs false
namespace Go.SyP
open Go Go.Sy Go.Crc

theorem Table_n0_eq : merkle_Tree_Table_n0 = some [] := by
  unfold merkle_Tree_Table_n0
  obtain ⟨t, h1, h2, hc⟩ := some_n0
  rw [h1]
  simp only [Option.bind_some]
  obtain ⟨r, hr, e⟩ := for_go (step := merkle_Tree_Table_n0.step t) (n := 4096) (fun i x => merkle_Tree_Table_n0.S.l1 (i : Int) x) (fun i x => x = []) (by
    rintro i x hi rfl
    refine ⟨[], ?_, rfl⟩
    simp only [merkle_Tree_Table_n0.step, merkle_Tree_Table_n0.l1, merkle_Tree_Table_n0.j1, Int.toNat_natCast, wr1 (n := 4096) hi (by omega)]
    rw [if_pos (by omega), if_pos (by omega), hc i hi, if_neg (by decide)]) 0 [] (by omega) rfl
  rw [show (merkle_Tree_Table_n0.S.l1 0 ([] : List api_Pair)) = merkle_Tree_Table_n0.S.l1 ((0 : Nat) : Int) [] from rfl, e, loop_eq]
  simp only [merkle_Tree_Table_n0.step, merkle_Tree_Table_n0.l1]
  rw [if_neg (by omega), hr]
  rfl
theorem same4_zero : spliceref04_Same (⟨0, 0, 0, [], (⟨0, 0⟩ : spliceref03_Span), 0⟩ : spliceref04_Mut) (⟨0, 0, 0, [], (⟨0, 0⟩ : spliceref03_Span), 0⟩ : spliceref04_Mut) = some true := by
  unfold spliceref04_Same
  simp only
  rw [if_pos trivial, if_pos trivial, if_pos trivial, if_pos trivial, if_pos trivial, if_pos trivial]
  unfold spliceref04_Same.j1
  rw [if_neg (by simp), loop_eq]
  simp [spliceref04_Same.step, spliceref04_Same.l1, stk]
theorem Nil_j7 (t u : merkle_Tree) (ht : Inv t) (hu : Inv u) (h0 : ∀ k, k < 4096 → t.cells k = ⟨0, false⟩) : splicelaw20_MerkleNil.j7 t (some u, 0) u false = some true := by
  unfold splicelaw20_MerkleNil.j7
  rw [if_neg (by decide), if_pos rfl, awake_eq]
  simp only [Option.bind_some]
  obtain ⟨z, hz, hz1, hz2⟩ := some_n0
  have hzt := same_dks hz1 ht fun j hj => by rw [hz2 j hj, h0 j hj]
  have hd : dks z u = dks t u := by
    have hl : ∀ k, k < 4096 → z.leaf k = t.leaf k := fun k hk => by rw [hz1.leaf k hk, ht.leaf k hk, hz2 k hk, h0 k hk]
    have hw : ∀ k, k < 256 → z.low k = t.low k := fun k hk => by rw [hz1.low k hk, ht.low k hk]; exact congrArg ov (win_congr fun j hj => hl _ (by omega))
    have hm : ∀ k, k < 16 → z.mid k = t.mid k := fun k hk => by rw [hz1.mid k hk, ht.mid k hk]; exact congrArg ov (win_congr fun j hj => hw _ (by omega))
    unfold dks
    refine List.filter_congr fun k hk => ?_
    have hk2 := List.mem_range.1 hk
    unfold dk
    rw [hzt.1, hl k hk2, hw (k / 16) (by omega), hm (k / 256) (by omega)]
  have hlen := spansK_len t u
  rw [if_pos trivial, Diff_n0_eq hz, Diff_eq, hd]
  simp only [Option.bind_some]
  rw [Refs_eq _ (by omega)]
  simp only [Option.bind_some]
  rw [Same3_eq _ _ (by rw [List.length_map]; omega) rfl]
  simp only [Option.bind_some]
  rw [if_pos trivial, Above_eq [] 0 rfl (by omega) (fun k hk => by simp at hk)]
  simp only [Option.bind_some]
  rw [if_pos (by simp), Refs5_eq [] (by simp)]
  simp only [Option.bind_some]
  rw [if_pos (by simp), same4_zero]
  rfl
theorem splicelaw20_MerkleNil_true (k : Int) (a : List api_Pair) (c : api_Cell) {p0 p2 : Prop} (w1 : p0) (w0 : WfP a) (w2 : p2) : splicelaw20_MerkleNil k a c = some true := by
  unfold splicelaw20_MerkleNil
  obtain ⟨t, e1, ht, hc⟩ := New_eq [] (by simp) Tb.nil
  have h0 : ∀ k, k < 4096 → t.cells k = ⟨0, false⟩ := fun k hk => by rw [hc k hk]; rfl
  obtain ⟨z, hz, hz1, hz2⟩ := some_n0
  have hzt := same_dks hz1 ht fun j hj => by rw [hz2 j hj, h0 j hj]
  have hroot : merkle_Tree_Root_n0 = some t.root := by
    unfold merkle_Tree_Root_n0
    rw [hz]
    simp only [Option.bind_some]
    rw [hzt.1]
  rw [e1]
  simp only [Option.bind_some, optE, if_true]
  by_cases ha : ¬ Tb a
  · rw [New_bad a w0.len ha]
    simp only [Option.bind_some]
    have hbad : splicelaw20_MerkleNil.j3 k c t (none, 1) true = some true := by
      unfold splicelaw20_MerkleNil.j3
      rw [if_pos rfl, awake_eq]
      rfl
    rw [hbad]
    by_cases fa : ¬ splicelaw20_few a = true
    · rw [if_neg fa]
    replace fa := Classical.not_not.1 fa
    rw [if_pos fa]
    unfold splicelaw20_MerkleNil.j3
    rw [if_neg (by decide)]
    simp only [bnd, merkle_Tree_Node_n0, merkle_Tree_Leaf_n0, merkle_Tree_Prove_n0, merkle_Tree_Set_n0]
    rw [if_pos trivial, if_pos trivial, if_pos trivial, if_pos trivial, if_neg (show ¬ (merkle_Tree_Get_n0 k).Some = true from fun h => by cases h), hroot]
    simp only [Option.bind_some]
    rw [if_pos (show t.root = merkle_Tree_Root t from rfl), Table_n0_eq]
    simp only [Option.bind_some]
    unfold splicelaw20_MerkleNil.j4
    rw [if_neg (by decide), if_neg (by decide), awake_eq]
    rfl
  replace ha := Classical.not_not.1 ha
  obtain ⟨u, e2, hu, hd⟩ := New_eq a w0.len ha
  rw [e2]
  simp only [Option.bind_some]
  have hbad : splicelaw20_MerkleNil.j6 k c t (some u, 0) u true = some true := by
    unfold splicelaw20_MerkleNil.j6
    rw [if_pos rfl, awake_eq]
    rfl
  rw [hbad]
  by_cases fa : ¬ splicelaw20_few a = true
  · rw [if_neg fa]
  replace fa := Classical.not_not.1 fa
  rw [if_pos fa]
  unfold splicelaw20_MerkleNil.j6
  rw [if_neg (by decide)]
  simp only [bnd, merkle_Tree_Node_n0, merkle_Tree_Leaf_n0, merkle_Tree_Prove_n0, merkle_Tree_Set_n0]
  rw [if_pos trivial, if_pos trivial, if_pos trivial, if_pos trivial, if_neg (show ¬ (merkle_Tree_Get_n0 k).Some = true from fun h => by cases h), hroot]
  simp only [Option.bind_some]
  rw [if_pos (show t.root = merkle_Tree_Root t from rfl), Table_n0_eq]
  simp only [Option.bind_some]
  exact Nil_j7 t u ht hu h0
end Go.SyP
