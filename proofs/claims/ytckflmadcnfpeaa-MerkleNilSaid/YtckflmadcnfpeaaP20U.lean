/- The law MerkleSets. -/
import Derived.Test.YtckflmadcnfpeaaP20T
set_option linter.unusedVariables false
set_option linter.unusedSimpArgs false
namespace Go.SyP
open Go Go.Sy Go.Crc

def GoodT (t : merkle_Tree) : Prop := Inv t ∧ ∀ k, k < 4096 → okC (t.cells k)
theorem Sets_j8 (sets : List api_Pair) (i : Nat) (x y : merkle_Tree) (b : Bool) (K V : Int) (hX : sets.getD (i : Int).toNat api_Pair.z = ⟨K, V⟩) (hk : 0 ≤ K ∧ K < 4096) (hy : y.cells K.toNat = ⟨V, b⟩) :
    splicelaw20_MerkleSets.j8 sets (i : Int) (0, y) true b = some (.inl (.l1 (IntKind.wrap .i64 ((i : Int) + 1)) y)) := by
  unfold splicelaw20_MerkleSets.j8
  rw [if_pos rfl, if_pos rfl, hX, Get_in y hk, hy]
  simp only [Option.bind_some, splicelaw20_MerkleSets.j9]
  rw [if_neg (by simp)]
theorem Sets_j8n (sets : List api_Pair) (i : Nat) (x : merkle_Tree) (b : Bool) : splicelaw20_MerkleSets.j8 sets (i : Int) (1, x) false b = some (.inl (.l1 (IntKind.wrap .i64 ((i : Int) + 1)) x)) := by
  unfold splicelaw20_MerkleSets.j8
  rw [if_neg (by show ¬ (1 : Int) = 0; decide), if_neg (by decide), if_pos rfl]
  simp only [splicelaw20_MerkleSets.j9]
  rw [if_neg (by decide)]
theorem Sets_step (sets : List api_Pair) (so : List Bool) (i : Nat) (x : merkle_Tree) (hi : i < sets.length) (h20 : i < 20) (hs : i < so.length) (hx : GoodT x) (hn : sets.length ≤ 9223372036854775807) :
    ∃ y, splicelaw20_MerkleSets.step sets so (.l1 (i : Int) x) = some (.inl (.l1 ((i + 1 : Nat) : Int) y)) ∧ GoodT y := by
  rw [← wr1 hi hn]
  simp only [splicelaw20_MerkleSets.step, splicelaw20_MerkleSets.l1]
  rw [if_pos (by omega), if_pos (by omega), decide_eq_true (by omega)]
  unfold splicelaw20_MerkleSets.j5
  rw [if_pos rfl, if_pos (by omega), if_pos (by omega)]
  have j8 := Sets_j8 sets i x
  have j8n := Sets_j8n sets i x
  generalize hX : sets.getD (i : Int).toNat api_Pair.z = X at *
  generalize so.getD (i : Int).toNat false = b at *
  obtain ⟨K, V⟩ := X
  simp only
  by_cases hg : (0 ≤ K ∧ K < 4096) ∧ okC ⟨V, b⟩
  · have hy : GoodT (putT x K.toNat ⟨V, b⟩) := by
      refine ⟨put_inv hx.1 _ (by omega), fun k hk => ?_⟩
      rw [put_cells]
      by_cases e : k = K.toNat
      · rw [e, upd_at]; exact hg.2
      · rw [upd_ne _ _ e]; exact hx.2 k hk
    rw [Set_in x hx.1 hg.1 hg.2]
    simp only [Option.bind_some]
    have hc : (putT x K.toNat ⟨V, b⟩).cells K.toNat = ⟨V, b⟩ := by rw [put_cells, upd_at]
    refine ⟨_, ?_, hy⟩
    have hok := hg.2
    unfold okC at hok
    rw [if_pos (by omega), if_pos (by omega)]
    cases b
    · rw [if_neg (by decide)]
      rw [if_neg (by show ¬ false = true; decide)] at hok
      rw [show (V == 0) = true by simpa using hok]
      exact j8 _ false K V rfl hg.1 hc
    · rw [if_pos rfl]
      rw [if_pos rfl] at hok
      rw [if_pos (by simp only at hok; omega), if_pos (by simp only at hok; omega)]
      exact j8 _ true K V rfl hg.1 hc
  · rw [Set_out x hg]
    simp only [Option.bind_some]
    refine ⟨x, ?_, hx⟩
    by_cases h1 : K ≥ 0
    · rw [if_pos h1]
      by_cases h2 : K < 4096
      · rw [if_pos h2]
        have hok : ¬ okC ⟨V, b⟩ := fun h => hg ⟨⟨h1, h2⟩, h⟩
        unfold okC at hok
        cases b
        · rw [if_neg (by decide)]
          rw [if_neg (by show ¬ false = true; decide)] at hok
          rw [show (V == 0) = false by simpa using hok]
          exact j8n _
        · rw [if_pos rfl]
          rw [if_pos rfl] at hok
          simp only at hok
          by_cases h3 : V ≥ -1099511627776
          · rw [if_pos h3, if_neg (by omega)]; exact j8n _
          · rw [if_neg h3]; exact j8n _
      · rw [if_neg h2]; exact j8n _
    · rw [if_neg h1]; exact j8n _
theorem Sets_end2 (sets : List api_Pair) (so : List Bool) (v : List api_Pair) (x u : merkle_Tree) (hv : v = tabL x) (hx : GoodT x) (hu : Inv u) (hs : ∀ j, j < 4096 → x.cells j = u.cells j) (hn : sets.length ≤ 9223372036854775807) :
    goLoop (splicelaw20_MerkleSets.step sets so) (.l2 v u 0 x) = some true := by
  have hlev : splicelaw20_levels v = some (lv u) := by
    rw [hv]
    exact levels_eq _ (by have := tabL_len x; omega) (tabL_tb hx.2) hu (fun k hk => by rw [← hs k hk, tabL_look hx.2 hk])
  have hroot := (same_dks hx.1 hu hs).1
  have hend : splicelaw20_MerkleSets.j10 sets 0 x v u false = some (.inr true) ∧ ∀ i : Int, splicelaw20_MerkleSets.j10 sets i x v u false = some (.inr true) := by
    have : ∀ i : Int, splicelaw20_MerkleSets.j10 sets i x v u false = some (.inr true) := by
      intro i
      unfold splicelaw20_MerkleSets.j10
      rw [if_neg (by decide), awake_eq, hlev]
      simp only [Option.bind_some]
      rw [if_pos trivial, if_pos (by rw [lvl]; omega), lv3, if_pos (by simp)]
      simp [splicelaw20_MerkleSets.j11, merkle_Tree_Root, hroot]
    exact ⟨this 0, this⟩
  obtain ⟨r, h1, h2⟩ := for_post (step := splicelaw20_MerkleSets.step sets so) (n := min sets.length 20) (fun i (_ : Unit) => splicelaw20_MerkleSets.S.l2 v u (i : Int) x) (fun _ _ => True) (fun r => r = true) (by
    intro _ _
    refine ⟨true, ?_, rfl⟩
    simp only [splicelaw20_MerkleSets.step, splicelaw20_MerkleSets.l2]
    by_cases h : ((min sets.length 20 : Nat) : Int) < (sets.length : Int)
    · rw [if_pos h, decide_eq_false (by omega)]; exact hend.2 _
    · rw [if_neg h]; exact hend.2 _) (by
    intro i _ hi _
    left
    refine ⟨(), ?_, trivial⟩
    simp only [splicelaw20_MerkleSets.step, splicelaw20_MerkleSets.l2]
    rw [if_pos (by omega), decide_eq_true (by omega)]
    unfold splicelaw20_MerkleSets.j10
    rw [if_pos rfl, if_pos (by omega)]
    generalize sets.getD (i : Int).toNat api_Pair.z = X
    have hw := wr1 (n := sets.length) (i := i) (by omega) hn
    by_cases hk : 0 ≤ X.Key ∧ X.Key < 4096
    · rw [Leaf_in x hk, Leaf_in u hk]
      simp only [Option.bind_some]
      rw [hx.1.leaf _ (by omega), hu.leaf _ (by omega), hs _ (by omega), if_pos rfl, hw]
    · rw [Leaf_out x hk, Leaf_out u hk]
      simp only [Option.bind_some]
      rw [if_pos trivial, hw]) 0 () (by omega) trivial
  rw [h2] at h1
  exact h1
theorem Sets_end1 (sets : List api_Pair) (so : List Bool) (i : Int) (x : merkle_Tree) (hx : GoodT x) (hn : sets.length ≤ 9223372036854775807) :
    stk (splicelaw20_MerkleSets.j5 sets so i x false) (goLoop (splicelaw20_MerkleSets.step sets so)) = some true := by
  unfold splicelaw20_MerkleSets.j5
  rw [if_neg (by decide), Table_eq]
  simp only [Option.bind_some]
  obtain ⟨u, e, hu, hc⟩ := New_eq (tabL x) (by have := tabL_len x; omega) (tabL_tb hx.2)
  rw [e]
  simp only [Option.bind_some, optE]
  have hs : ∀ j, j < 4096 → x.cells j = u.cells j := fun j hj => by rw [hc j hj, tabL_look hx.2 hj]
  have hsame := same_dks hx.1 hu hs
  rw [if_pos trivial, if_pos (by unfold merkle_Tree_Root; exact hsame.1.symm), Diff_eq]
  simp only [Option.bind_some]
  rw [hsame.2, spans_none]
  unfold splicelaw20_MerkleSets.j7
  rw [if_neg (by decide)]
  exact Sets_end2 sets so _ x u rfl hx hu hs hn
theorem splicelaw20_MerkleSets_true (a sets : List api_Pair) (so : List Bool) (w0 : WfP a) (w1 : WfP sets) {p2 : Prop} (w2 : p2) : splicelaw20_MerkleSets a sets so = some true := by
  unfold splicelaw20_MerkleSets
  obtain ⟨r, hr1, hr2⟩ := ref5_Check_eq a w0.len
  by_cases ha : ¬ Tb a
  · rw [New_bad a w0.len ha]
    simp only [Option.bind_some, optE, ite_self]
    unfold splicelaw20_MerkleSets.j1
    rw [awake_eq]
    simp only [Option.bind_some]
    rw [if_pos trivial]
    by_cases hl : (a.length : Int) > 60
    · rw [if_pos hl]; rfl
    · rw [if_neg hl, Refs5_eq a (by omega)]
      simp only [Option.bind_some]
      rw [hr1]
      have : r = false := by
        cases r
        · rfl
        · exact absurd (hr2.1 rfl) ha
      rw [this]
      rfl
  replace ha := Classical.not_not.1 ha
  obtain ⟨t, e1, ht, hc⟩ := New_eq a w0.len ha
  rw [e1]
  simp only [Option.bind_some, optE]
  by_cases fa : ¬ splicelaw20_few a = true
  · rw [if_neg fa]
    unfold splicelaw20_MerkleSets.j3
    rw [few_eq] at fa
    rw [if_pos rfl, awake_eq]
    simp only [Option.bind_some]
    rw [if_pos trivial, if_pos (by omega)]
    rfl
  replace fa := Classical.not_not.1 fa
  rw [if_pos fa, if_pos trivial]
  unfold splicelaw20_MerkleSets.j3
  rw [if_neg (by decide)]
  obtain ⟨x, hx, e2⟩ := for_go (step := splicelaw20_MerkleSets.step sets so) (n := min (min sets.length 20) so.length) (fun i x => splicelaw20_MerkleSets.S.l1 (i : Int) x) (fun _ x => GoodT x) (by
    intro i x hi hx
    exact Sets_step sets so i x (by omega) (by omega) (by omega) hx w1.len) 0 t (by omega) ⟨ht, fun k hk => by rw [hc k hk]; exact cellO_ok ha _⟩
  rw [show (splicelaw20_MerkleSets.S.l1 0 t) = splicelaw20_MerkleSets.S.l1 ((0 : Nat) : Int) t from rfl, e2, loop_eq]
  simp only [splicelaw20_MerkleSets.step, splicelaw20_MerkleSets.l1]
  by_cases h1 : ((min (min sets.length 20) so.length : Nat) : Int) < (sets.length : Int)
  · rw [if_pos h1]
    by_cases h2 : ((min (min sets.length 20) so.length : Nat) : Int) < 20
    · rw [if_pos h2, decide_eq_false (by omega)]
      exact Sets_end1 sets so _ x hx w1.len
    · rw [if_neg h2]
      exact Sets_end1 sets so _ x hx w1.len
  · rw [if_neg h1]
    exact Sets_end1 sets so _ x hx w1.len
end Go.SyP
