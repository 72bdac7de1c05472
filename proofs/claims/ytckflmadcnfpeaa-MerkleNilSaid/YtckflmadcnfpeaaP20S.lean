/- The laws MerkleDiffs and MerkleFinds. -/
import Derived.Test.YtckflmadcnfpeaaP20R
set_option linter.unusedVariables false
set_option linter.unusedSimpArgs false
namespace Go.SyP
open Go Go.Sy Go.Crc

theorem Same3_eq (x y : List spliceref03_Span) (hn : x.length ≤ 5000) (h : x = y) : spliceref03_Same x y = some true := by
  subst h
  unfold spliceref03_Same
  rw [if_pos rfl]
  obtain ⟨r, h1, h2⟩ := for_post (step := spliceref03_Same.step x x) (n := x.length) (fun i (_ : Unit) => spliceref03_Same.S.l1 (i : Int)) (fun _ _ => True) (fun r => r = true) (by
    intro _ _
    exact ⟨true, by simp [spliceref03_Same.step, spliceref03_Same.l1], rfl⟩) (by
    intro i _ hi _
    left
    refine ⟨(), ?_, trivial⟩
    simp only [spliceref03_Same.step, spliceref03_Same.l1]
    rw [if_pos (by omega), if_pos (by omega), if_pos (by omega), if_pos trivial, if_pos trivial, wr1 hi (by omega)]) 0 () (by omega) trivial
  rw [← h2]; exact h1
theorem cutS_length (l : List api_Span) : (cutS l).length ≤ l.length := by
  have : ∀ n (l : List api_Span), l.length ≤ n → (cutS l).length ≤ l.length := by
    intro n
    induction n with
    | zero => intro l hl; rw [cutS, dif_neg (by omega)]; exact Nat.le_refl _
    | succ n ih =>
      intro l hl
      rw [cutS]
      split
      · have h1 := ih ((l.set (l.length - 2) ⟨(l.getD (l.length - 2) api_Span.z).Lo, (l.getD (l.length - 1) api_Span.z).Hi⟩).take (l.length - 1)) (by simp only [List.length_take, List.length_set]; omega)
        simp only [List.length_take, List.length_set] at h1
        omega
      · exact Nat.le_refl _
  exact this _ l (Nat.le_refl _)
theorem spansK_len (t u : merkle_Tree) : (spansK (dks t u)).length ≤ 4096 := by
  have h1 := cutS_length ((dks t u).foldl addK [])
  have h2 := foldl_addK_length (dks t u) []
  have h3 := dks_len t u
  unfold spansK
  simp only [List.length_nil] at h2
  omega
theorem few_eq (a : List api_Pair) : (splicelaw20_few a = true) ↔ a.length ≤ 60 := by
  unfold splicelaw20_few
  rw [decide_eq_true_iff]
  omega
/-- What may be handed over. -/
def WfP (a : List api_Pair) : Prop := a.length ≤ maxLen ∧ ∀ x ∈ a, (Lit.int .i64 x.Key).wf = true ∧ (Lit.int .i64 x.Val).wf = true
theorem WfP.len {a : List api_Pair} (h : WfP a) : a.length ≤ 9223372036854775807 := by
  have := h.1
  unfold maxLen at this
  omega
theorem splicelaw20_MerkleDiffs_true (a b : List api_Pair) (w0 : WfP a) (w1 : WfP b) : splicelaw20_MerkleDiffs a b = some true := by
  unfold splicelaw20_MerkleDiffs
  by_cases ha : ¬ (Tb a)
  · rw [New_bad a w0.len ha]
    simp only [Option.bind_some, optE]
    by_cases hb : Tb b
    · obtain ⟨u, e2, hu, hd⟩ := New_eq b w1.len hb
      rw [e2]
      simp only [Option.bind_some, splicelaw20_MerkleDiffs.j2, awake_eq, ite_self]
    · rw [New_bad b w1.len hb]
      simp only [Option.bind_some, splicelaw20_MerkleDiffs.j1, awake_eq, ite_self]
  replace ha := Classical.not_not.1 ha
  obtain ⟨t, e1, ht, hc⟩ := New_eq a w0.len ha
  rw [e1]
  simp only [Option.bind_some, optE]
  by_cases hb : ¬ (Tb b)
  · rw [New_bad b w1.len hb]
    simp only [Option.bind_some, splicelaw20_MerkleDiffs.j3, awake_eq, ite_self]
  replace hb := Classical.not_not.1 hb
  obtain ⟨u, e2, hu, hd⟩ := New_eq b w1.len hb
  rw [e2]
  simp only [Option.bind_some]
  have hbad : splicelaw20_MerkleDiffs.j4 a b t u true = some true := by
    simp [splicelaw20_MerkleDiffs.j4, awake_eq]
  rw [hbad]
  by_cases fa : ¬ (splicelaw20_few a = true)
  · rw [if_neg fa]
  replace fa := Classical.not_not.1 fa
  by_cases fb : ¬ (splicelaw20_few b = true)
  · rw [if_pos fa, if_neg fb]
  replace fb := Classical.not_not.1 fb
  rw [if_pos fa, if_pos fb, if_pos trivial, if_pos trivial]
  have la := (few_eq a).1 fa
  have lb := (few_eq b).1 fb
  have hl := spansK_len t u
  simp only [splicelaw20_MerkleDiffs.j4]
  rw [if_neg (by decide), levels_eq a (by omega) ha ht hc, levels_eq b (by omega) hb hu hd]
  simp only [Option.bind_some]
  rw [Diff_eq]
  simp only [Option.bind_some]
  rw [Refs_eq _ (by omega), RDiff_eq]
  simp only [Option.bind_some]
  rw [Same3_eq _ _ (by rw [List.length_map]; omega) rfl]
  simp only [Option.bind_some]
  rw [if_pos trivial, Diff_eq]
  simp only [Option.bind_some]
  rw [dks_symm u t, Refs_eq _ (by omega)]
  simp only [Option.bind_some]
  rw [Same3_eq _ _ (by rw [List.length_map]; omega) rfl]
  simp only [Option.bind_some, Bool.not_true, splicelaw20_MerkleDiffs.j5, awake_eq]
  rw [if_neg (by decide), if_pos trivial]
  by_cases h0 : ((spansK (dks t u)).length : Int) > 0
  · rw [if_pos h0]; rfl
  rw [if_neg h0]
  by_cases h1 : merkle_Tree_Root t = merkle_Tree_Root u
  · rw [if_pos h1]; rfl
  rw [if_neg h1, RDiff_eq]
  simp only [Option.bind_some, List.length_map, splicelaw20_MerkleDiffs.j6]
  congr 1
  simp only [beq_iff_eq]
  omega

theorem look_set : ∀ (a : List api_Pair) (i : Nat) (v : Int) (k : Int), Up a → i < a.length → look (a.set i ⟨(a.getD i api_Pair.z).Key, v⟩) k = if k = (a.getD i api_Pair.z).Key then some v else look a k
  | [], i, v, k, _, hi => by simp at hi
  | x :: a, 0, v, k, hu, hi => by
    simp only [List.set_cons_zero, List.getD_cons_zero, look]
    by_cases e : k = x.Key
    · subst e; simp
    · simp [e, Ne.symm e]
  | x :: a, i + 1, v, k, hu, hi => by
    simp only [List.set_cons_succ, List.getD_cons_succ, look]
    have hi2 : i < a.length := by simpa using hi
    rw [look_set a i v k hu.tail hi2]
    have hm : a.getD i api_Pair.z ∈ a := by
      rw [List.getD_eq_getElem?_getD, List.getElem?_eq_getElem hi2]
      exact List.getElem_mem _
    have := hu.head _ hm
    by_cases e : x.Key = k
    · subst e
      rw [if_pos rfl, if_pos rfl, if_neg (by omega)]
    · rw [if_neg e, if_neg e]
theorem set_keys : ∀ (a : List api_Pair) (i : Nat) (v : Int), (a.set i ⟨(a.getD i api_Pair.z).Key, v⟩).map (·.Key) = a.map (·.Key)
  | [], _, _ => rfl
  | x :: a, 0, v => rfl
  | x :: a, i + 1, v => by
    simp only [List.set_cons_succ, List.getD_cons_succ, List.map_cons, set_keys a i v]
theorem up_keys {a b : List api_Pair} (h : a.map (·.Key) = b.map (·.Key)) (hu : Up b) : Up a := by
  unfold Up at hu ⊢
  have : (b.map (·.Key)).Pairwise (· < ·) := List.pairwise_map.2 hu
  rw [← h] at this
  exact List.pairwise_map.1 this
theorem mem_set {a : List api_Pair} {i : Nat} {x y : api_Pair} (h : y ∈ a.set i x) : y = x ∨ y ∈ a := by
  rcases List.mem_or_eq_of_mem_set h with h | h
  · exact .inr h
  · exact .inl h
theorem set_mem {a : List api_Pair} {i : Nat} {x : api_Pair} (h : i < a.length) : x ∈ a.set i x := by
  rw [List.mem_iff_getElem]
  exact ⟨i, by simpa using h, by simp⟩
theorem tb_set {a : List api_Pair} (h : Tb a) {i : Nat} (hi : i < a.length) (v : Int) : Tb (a.set i ⟨(a.getD i api_Pair.z).Key, v⟩) ↔ (-1099511627776 ≤ v ∧ v ≤ 1099511627776) := by
  have hm : a.getD i api_Pair.z ∈ a := by
    rw [List.getD_eq_getElem?_getD, List.getElem?_eq_getElem hi]
    exact List.getElem_mem _
  have hok := h.ok _ hm
  constructor
  · intro h2
    have := h2.ok _ (set_mem (x := ⟨(a.getD i api_Pair.z).Key, v⟩) hi)
    exact this.2.2
  · intro hv
    refine ⟨fun y hy => ?_, up_keys (set_keys a i v) h.up⟩
    rcases mem_set hy with rfl | hy
    · exact ⟨hok.1, hok.2.1, hv.1, hv.2⟩
    · exact h.ok y hy
theorem xor_self_ne {u b : Nat} (hb : b ≠ 0) : u ≠ u ^^^ b := by
  intro h
  apply hb
  have := congrArg (u ^^^ ·) h
  simp only [Nat.xor_self, ← Nat.xor_assoc, Nat.zero_xor] at this
  exact this.symm
theorem which_eq (w : Int) (n : Nat) (hn : 0 < n) (hn2 : n ≤ 4096) (hw : -9223372036854775808 ≤ w ∧ w ≤ 9223372036854775807) : ∃ i : Nat, i < n ∧ Int.tmod (IntKind.wrap .i64 ((Int.tmod w (n : Int)) + (n : Int))) (n : Int) = (i : Int) := by
  have h1 : Int.tmod w n < n := Int.tmod_lt_of_pos _ (by omega)
  have h2 : -(n : Int) < Int.tmod w n := by
    have := Int.lt_tmod_of_pos w (b := n) (by omega)
    exact this
  rw [wr (by omega)]
  have h3 : 0 ≤ Int.tmod w n + n := by omega
  rw [Int.tmod_eq_emod_of_nonneg h3]
  have h4 := Int.emod_nonneg (Int.tmod w n + n) (b := n) (by omega)
  have h5 := Int.emod_lt_of_pos (Int.tmod w n + n) (b := n) (by omega)
  exact ⟨((Int.tmod w n + n) % n).toNat, by omega, by omega⟩
theorem i64wf {n : Int} (h : (Lit.int .i64 n).wf = true) : -9223372036854775808 ≤ n ∧ n ≤ 9223372036854775807 := by
  simp [Lit.wf, IntKind.min, IntKind.max, IntKind.bits, IntKind.signed] at h
  omega
theorem u32wf {n : Int} (h : (Lit.int .u32 n).wf = true) : 0 ≤ n ∧ n < 4294967296 := by
  simp [Lit.wf, IntKind.min, IntKind.max, IntKind.bits, IntKind.signed] at h
  omega
/-- One low part of a value turned. -/
def turn (v : Int) (b : Nat) : Int := IntKind.wrap .i64 ((vu v ^^^ b : Nat) : Int)
theorem vu_turn (v : Int) {b : Nat} (hb : b < 18446744073709551616) : vu (turn v b) = vu v ^^^ b := by
  refine vu_wrap _ ?_
  have : vu v ^^^ b < 2 ^ 64 := Nat.xor_lt_two_pow (vu_lt v) hb
  omega
theorem turn_text (v bits : Int) (hb : 0 ≤ bits) : IntKind.wrap .i64 (bXor .u64 (IntKind.wrap .u64 v) (IntKind.wrap .u64 (Int.tmod bits 1024))) = turn v (bits.toNat % 1024) := by
  rw [Int.tmod_eq_emod_of_nonneg hb, wr64m, wr64 (by omega), show bits % 1024 = ((bits.toNat % 1024 : Nat) : Int) by omega, bX64 (vu_lt v) (by omega)]
  rfl
theorem splicelaw20_MerkleFinds_true (a : List api_Pair) (w bits : Int) (w0 : WfP a) (w1 : (Lit.int .i64 w).wf = true) (w2 : (Lit.int .u32 bits).wf = true) : splicelaw20_MerkleFinds a w bits = some true := by
  unfold splicelaw20_MerkleFinds
  by_cases ha : ¬ Tb a
  · rw [New_bad a w0.len ha]
    simp only [Option.bind_some, optE, splicelaw20_MerkleFinds.j1, awake_eq, ite_self]
  replace ha := Classical.not_not.1 ha
  obtain ⟨t, e1, ht, hc⟩ := New_eq a w0.len ha
  rw [e1]
  simp only [Option.bind_some, optE]
  have hbad : splicelaw20_MerkleFinds.j2 a w bits t true = some true := by
    simp [splicelaw20_MerkleFinds.j2, awake_eq]
  rw [hbad]
  by_cases fa : ¬ splicelaw20_few a = true
  · rw [if_neg fa]
  replace fa := Classical.not_not.1 fa
  rw [if_pos fa, if_pos trivial]
  have la := (few_eq a).1 fa
  by_cases hz : a.length = 0
  · rw [show ((a.length : Int) == 0) = true by simp [hz], hbad]
  rw [show ((a.length : Int) == 0) = false by simp [hz]]
  unfold splicelaw20_MerkleFinds.j2
  rw [if_neg (by decide), if_pos (by omega)]
  obtain ⟨i, hi, hv5⟩ := which_eq w a.length (by omega) (by omega) (i64wf w1)
  obtain ⟨hb0, hb1⟩ := u32wf w2
  rw [hv5]
  simp only [bnd, List.nil_append, turn_text _ bits hb0, Int.toNat_natCast, awake_eq, Option.bind_some]
  rw [if_pos (by simp only [List.length_nil]; omega), if_pos (by omega)]
  have hm : a.getD i api_Pair.z ∈ a := by
    rw [List.getD_eq_getElem?_getD, List.getElem?_eq_getElem hi]
    exact List.getElem_mem _
  have hok := ha.ok _ hm
  have hlk : ∀ k : Int, k = (a.getD i api_Pair.z).Key → look a k = some (a.getD i api_Pair.z).Val := fun k hk => by
    rw [hk]; exact look_some ha.up hm
  have hset := look_set a i (turn (a.getD i api_Pair.z).Val (bits.toNat % 1024))
  have htb := tb_set ha hi (turn (a.getD i api_Pair.z).Val (bits.toNat % 1024))
  have hget : (a.set i ⟨(a.getD i api_Pair.z).Key, turn (a.getD i api_Pair.z).Val (bits.toNat % 1024)⟩).getD i api_Pair.z = ⟨(a.getD i api_Pair.z).Key, turn (a.getD i api_Pair.z).Val (bits.toNat % 1024)⟩ := by
    rw [getD_set _ _ _ _ _ hi, if_pos rfl]
  rw [hget]
  simp only [List.length_set]
  have hmod : Int.tmod bits 1024 = ((bits.toNat % 1024 : Nat) : Int) := by rw [Int.tmod_eq_emod_of_nonneg hb0]; omega
  rw [hmod]
  have hlt : bits.toNat % 1024 < 1024 := Nat.mod_lt _ (by omega)
  generalize bits.toNat % 1024 = b at *
  generalize a.getD i api_Pair.z = X at *
  by_cases hm2 : ¬ Tb (a.set i ⟨X.Key, turn X.Val b⟩)
  · rw [New_bad _ (by rw [List.length_set]; omega) hm2]
    simp only [Option.bind_some]
    rw [if_neg (by decide), if_pos trivial, if_pos (by omega)]
    rw [htb] at hm2
    simp only [optE]
    by_cases hx : turn X.Val b > 1099511627776
    · rw [if_pos hx]; rfl
    · rw [if_neg hx]
      simp only [splicelaw20_MerkleFinds.j3]
      congr 1
      rw [decide_eq_true_iff]
      omega
  replace hm2 := Classical.not_not.1 hm2
  obtain ⟨u, e2, hu, hd⟩ := New_eq (a.set i ⟨X.Key, turn X.Val b⟩) (by rw [List.length_set]; omega) hm2
  rw [e2]
  simp only [Option.bind_some, optE]
  rw [if_pos trivial, Diff_eq]
  simp only [Option.bind_some]
  obtain ⟨k, hk⟩ := Int.eq_ofNat_of_zero_le hok.1
  have hk2 : k < 4096 := by have := hok.2.1; omega
  have hother : ∀ j, j < 4096 → j ≠ k → t.cells j = u.cells j := by
    intro j hj hn
    rw [hc j hj, hd j hj, hset _ ha.up hi, if_neg (by omega)]
  have ct : t.cells k = ⟨X.Val, true⟩ := by rw [hc k hk2, hlk _ hk.symm]; rfl
  have cu : u.cells k = ⟨turn X.Val b, true⟩ := by rw [hd k hk2, hset _ ha.up hi, if_pos hk.symm]; rfl
  have hvu := vu_turn X.Val (b := b) (by omega)
  by_cases hb : b = 0
  · subst hb
    rw [if_pos (by decide)]
    have hsame : t.cells k = u.cells k := by
      rw [ct, cu]
      congr 1
      refine vu_inj (by have := hok.2.2; omega) (wrap_rng _) ?_
      rw [hvu, Nat.xor_zero]
    have hs := same_dks ht hu fun j hj => by
      by_cases e : j = k
      · rw [e]; exact hsame
      · exact hother j hj e
    rw [hs.2, spans_none, if_pos trivial, if_pos (by simp)]
    simp [splicelaw20_MerkleFinds.j7, merkle_Tree_Root, hs.1]
  · rw [if_neg (by omega)]
    have tw : Twin t u k := by
      refine twin ht hu hk2 hother ?_
      rw [ct, cu]
      have := xor_win (vu X.Val) b 0 (by omega)
      rw [Nat.mul_zero, Nat.pow_zero, Nat.mul_one] at this
      refine num_apart 0 (by omega) ?_ (by rw [Nat.mul_zero, Nat.pow_zero, Nat.mod_one, Nat.mod_one]) ?_
      · rw [hvu, Nat.mul_zero]; exact this.1.symm
      · rw [hvu]; exact xor_self_ne hb
    rw [tw.dks hk2, spans_one, if_pos trivial, if_pos (by simp), if_pos (by simp), if_pos (by omega)]
    simp only [List.getD_cons_zero]
    rw [if_pos hk.symm, wr (by omega), if_pos (by omega)]
    simp [splicelaw20_MerkleFinds.j8, merkle_Tree_Root, tw.root]
end Go.SyP
