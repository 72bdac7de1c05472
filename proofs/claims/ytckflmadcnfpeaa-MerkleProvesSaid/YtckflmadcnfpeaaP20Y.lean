/- The laws MerkleProves and MerkleForged. -/
import Derived.Test.YtckflmadcnfpeaaP20X
set_option linter.unusedVariables false
set_option linter.unusedSimpArgs false
namespace Go.SyP
open Go Go.Sy Go.Crc

theorem RProve_in (L : List (List Int)) (m q N : Nat) (x : Nat → Int) (r : List Int) (hm : m < L.length) (hL : L.length = 4) (hx : L.getD m [] = winL x 0 N) (hq : 16 * (q / 16) + 16 ≤ N) (hN : N ≤ 4096) (hr : r.length ≤ 100) :
    goLoop (spliceref20_Prove.step L) (.l1 (q : Int) (m : Int) r) = if m < 3 then goLoop (spliceref20_Prove.step L) (.l1 ((q / 16 : Nat) : Int) ((m + 1 : Nat) : Int) (r ++ sibs x (16 * (q / 16)) (q % 16))) else some r := by
  have hq2 : q < 4096 := by omega
  have e3 : IntKind.wrap .i64 (((q / 16 : Nat) : Int) * 16) = ((16 * (q / 16) : Nat) : Int) := by rw [wr (by omega)]; omega
  have e4 : IntKind.wrap .i64 (((16 * (q / 16) : Nat) : Int) + 16) = ((16 * (q / 16) + 16 : Nat) : Int) := by rw [wr (by omega)]; omega
  rw [loop_eq]
  simp only [spliceref20_Prove.step, spliceref20_Prove.l1, tdiv16 q hq2, e3, bnd]
  by_cases h3 : m < 3
  · rw [if_pos (by omega), if_pos h3]
    simp only [stk]
    obtain ⟨y, hy, e⟩ := for_go (step := spliceref20_Prove.step L) (n := 16) (fun i y => spliceref20_Prove.S.l2 ((16 * (q / 16) : Nat) : Int) (q : Int) (m : Int) ((16 * (q / 16) + i : Nat) : Int) y) (fun i y => y = r ++ sibsTo x (16 * (q / 16)) (q % 16) i) (by
      rintro i y hi hy
      have hl := sibsTo_len x (16 * (q / 16)) (q % 16) i
      have hl3 : y.length ≤ 120 := by rw [hy, List.length_append]; omega
      have hw : IntKind.wrap .i64 (((16 * (q / 16) + i : Nat) : Int) + 1) = ((16 * (q / 16) + (i + 1) : Nat) : Int) := by rw [wr (by omega)]; omega
      refine ⟨_, ?_, rfl⟩
      simp only [spliceref20_Prove.step, spliceref20_Prove.l2, spliceref20_Prove.j1, e4, hw, Int.toNat_natCast]
      rw [if_pos (by omega)]
      by_cases h : i = q % 16
      · rw [if_pos (by omega), hy, h, sibsTo_at]
      · rw [if_neg (by omega), if_pos (by omega), if_pos (by rw [hx, winL_length]; omega), if_pos (by omega), hx, winL_get _ _ _ (by omega), Nat.zero_add, sibsTo_ne _ _ _ _ h, hy, List.append_assoc]) 0 r (by omega) (by rw [sibsTo_0, List.append_nil])
    rw [show (((16 * (q / 16) : Nat) : Int)) = ((16 * (q / 16) + 0 : Nat) : Int) from rfl] at e ⊢
    rw [e, loop_eq]
    rw [sibsTo_16 _ _ _ (by omega)] at hy
    simp only [spliceref20_Prove.step, spliceref20_Prove.l2, Nat.add_zero, e4, tdiv16 q hq2]
    rw [if_neg (by omega), hy, wr (by omega)]
    rfl
  · rw [if_neg (by omega), if_neg h3]
    rfl
theorem RProve_eq (t : merkle_Tree) (k : Nat) (hk : k < 4096) : spliceref20_Prove (lv t) (k : Int) = some (prf t k) := by
  unfold spliceref20_Prove
  have s0 := sibs_length t.leaf (16 * (k / 16)) (k % 16) (by omega)
  have s1 := sibs_length t.low (16 * (k / 16 / 16)) (k / 16 % 16) (by omega)
  have s2 := sibs_length t.mid (16 * (k / 16 / 16 / 16)) (k / 16 / 16 % 16) (by omega)
  have h0 := RProve_in (lv t) 0 k 4096 t.leaf [] (by rw [lvl]; omega) (lvl t) (lv0 t) (by omega) (by omega) (by simp)
  have h1 := RProve_in (lv t) 1 (k / 16) 256 t.low ([] ++ sibs t.leaf (16 * (k / 16)) (k % 16)) (by rw [lvl]; omega) (lvl t) (lv1 t) (by omega) (by omega) (by rw [List.length_append, s0]; simp)
  have h2 := RProve_in (lv t) 2 (k / 16 / 16) 16 t.mid ([] ++ sibs t.leaf (16 * (k / 16)) (k % 16) ++ sibs t.low (16 * (k / 16 / 16)) (k / 16 % 16)) (by rw [lvl]; omega) (lvl t) (lv2 t) (by omega) (by omega) (by rw [List.length_append, List.length_append, s0, s1]; simp)
  rw [if_pos (by omega)] at h0 h1 h2
  rw [show (spliceref20_Prove.S.l1 (k : Int) 0 ([] : List Int)) = .l1 (k : Int) ((0 : Nat) : Int) [] from rfl, h0, h1, h2, loop_eq]
  simp only [spliceref20_Prove.step, spliceref20_Prove.l1]
  rw [if_neg (by omega)]
  simp only [stk]
  unfold prf
  rw [show 16 * (k / 16 / 16 / 16) = 0 by omega, show k / 16 / 16 = k / 256 by omega, List.nil_append, List.append_assoc]

/-! ### The reference's Verify -/
theorem part_win (l : List Int) (a : Nat) (hl : a + 15 ≤ l.length) : (l.drop a).take 15 = winL (fun j => l.getD (a + j) 0) 0 15 := by
  refine eq_win (by rw [List.length_take, List.length_drop]; omega) fun k hk => ?_
  rw [List.getD_eq_getElem?_getD, List.getElem?_take, if_pos hk, List.getElem?_drop, ← List.getD_eq_getElem?_getD]
theorem ins_win (f : Nat → Int) (p : Nat) (hp : p < 16) (n : Int) : ins (winL f 0 15) p n = winL f 0 p ++ n :: winL f p (15 - p) := by
  unfold ins
  have e1 : (winL f 0 15).take p = winL f 0 p := by
    apply List.ext_getElem
    · rw [List.length_take, winL_length, winL_length]; omega
    · intro i h1 h2; simp [winL]
  have e2 : (winL f 0 15).drop p = winL f p (15 - p) := by
    apply List.ext_getElem
    · rw [List.length_drop, winL_length, winL_length]
    · intro i h1 h2; simp [winL]
  rw [e1, e2]
def kidsTo (f : Nat → Int) (p : Nat) (n : Int) (i : Nat) : List Int := if i ≤ p then winL f 0 i else winL f 0 p ++ n :: winL f p (i - p - 1)
theorem kidsTo_len (f : Nat → Int) (p : Nat) (n : Int) (i : Nat) : (kidsTo f p n i).length = i := by
  unfold kidsTo
  split
  · rw [winL_length]
  · rw [List.length_append, List.length_cons, winL_length, winL_length]; omega
theorem RVerify_in (r : Int) (l : List Int) (q m : Nat) (n : Int) (hl : l.length = 45) (hm : m < 3) (hq : q < 4096) (hn : R32 n) (hr : ∀ x ∈ l, R32 x) :
    goLoop (spliceref20_Verify.step r l) (.l1 (q : Int) n (m : Int)) = goLoop (spliceref20_Verify.step r l) (.l1 ((q / 16 : Nat) : Int) (ov (ins ((l.drop (15 * m)).take 15) (q % 16) n)) ((m + 1 : Nat) : Int)) := by
  rw [loop_eq]
  simp only [spliceref20_Verify.step, spliceref20_Verify.l1]
  rw [if_pos (by omega), wr (by omega)]
  simp only [stk]
  have hq16 : Int.tmod (q : Int) 16 = ((q % 16 : Nat) : Int) := by rw [Int.tmod_eq_emod_of_nonneg (by omega)]; omega
  obtain ⟨y, hy, e⟩ := for_go (step := spliceref20_Verify.step r l) (n := 16) (fun i y => spliceref20_Verify.S.l2 (q : Int) n (m : Int) ((15 * m + (if i ≤ q % 16 then i else i - 1) : Nat) : Int) (i : Int) y) (fun i y => y = kidsTo (fun j => l.getD (15 * m + j) 0) (q % 16) n i) (by
    rintro i y hi hy
    have hl3 := kidsTo_len (fun j => l.getD (15 * m + j) 0) (q % 16) n i
    rw [← hy] at hl3
    refine ⟨_, ?_, rfl⟩
    simp only [spliceref20_Verify.step, spliceref20_Verify.l2, spliceref20_Verify.j2, hq16, wr1 (n := 16) hi (by omega), Int.toNat_natCast]
    rw [if_pos (by omega)]
    by_cases h : i = q % 16
    · rw [if_pos (by omega), if_pos (by omega)]
      rw [if_pos (by omega), if_neg (by omega), show i + 1 - 1 = i by omega, hy]
      congr 3
      unfold kidsTo
      rw [if_pos (by omega), if_neg (by omega), h, show q % 16 + 1 - q % 16 - 1 = 0 by omega]
      rfl
    · rw [if_neg (by omega)]
      by_cases h2 : i < q % 16
      · rw [if_pos (show i ≤ q % 16 by omega), if_pos (show i + 1 ≤ q % 16 by omega), if_pos (by omega), if_pos (by omega), wr (by omega)]
        have ek : y ++ [l.getD (15 * m + i) 0] = kidsTo (fun j => l.getD (15 * m + j) 0) (q % 16) n (i + 1) := by
          rw [hy]
          unfold kidsTo
          rw [if_pos (by omega), if_pos (by omega), win_succ, Nat.zero_add]
        rw [ek, show ((15 * m + i : Nat) : Int) + 1 = ((15 * m + (i + 1) : Nat) : Int) by omega]
      · rw [if_neg (show ¬ i ≤ q % 16 by omega), if_neg (show ¬ i + 1 ≤ q % 16 by omega), if_pos (by omega), if_pos (by omega), wr (by omega)]
        have ek : y ++ [l.getD (15 * m + (i - 1)) 0] = kidsTo (fun j => l.getD (15 * m + j) 0) (q % 16) n (i + 1) := by
          rw [hy]
          unfold kidsTo
          rw [if_neg (by omega), if_neg (by omega), show i + 1 - q % 16 - 1 = (i - q % 16 - 1) + 1 by omega, win_succ, List.append_assoc, show q % 16 + (i - q % 16 - 1) = i - 1 by omega]
          rfl
        rw [ek, show ((15 * m + (i - 1) : Nat) : Int) + 1 = ((15 * m + (i + 1 - 1) : Nat) : Int) by omega]) 0 [] (by omega) (by unfold kidsTo; rw [if_pos (by omega)]; rfl)
  rw [show ((15 : Int) * (m : Int)) = ((15 * m + (if 0 ≤ q % 16 then 0 else 0 - 1) : Nat) : Int) by rw [if_pos (by omega)]; omega]
  rw [show (0 : Int) = ((0 : Nat) : Int) from rfl, e, loop_eq]
  simp only [spliceref20_Verify.step, spliceref20_Verify.l2]
  rw [if_neg (by omega)]
  have hfin : y = ins ((l.drop (15 * m)).take 15) (q % 16) n := by
    rw [hy, part_win l _ (by omega), ins_win _ _ (by omega)]
    unfold kidsTo
    rw [if_neg (by omega), show 16 - q % 16 - 1 = 15 - q % 16 by omega]
  rw [hfin, ovr_eq _ (ins_rng (part_rng hr _ _) hn) (by rw [ins_length, List.length_take]; omega)]
  simp only [Option.bind_some]
  rw [tdiv16 q hq, wr1 (n := 3) hm (by omega)]
  rfl
theorem RVerify_eq (r : Int) (k : Nat) (c : api_Cell) (l : List Int) (hk : k < 4096) (hl : l.length = 45) (hr : ∀ x ∈ l, R32 x) : spliceref20_Verify r (k : Int) ⟨c.Val, c.Some⟩ l = some (mk k (num c) l == r) := by
  unfold spliceref20_Verify
  rw [if_pos (by omega), if_neg (by omega), decide_eq_false (by omega)]
  unfold spliceref20_Verify.j1
  rw [if_neg (by decide), NumberR_eq]
  simp only [Option.bind_some]
  rw [show (0 : Int) = ((0 : Nat) : Int) from rfl, RVerify_in r l k 0 _ hl (by omega) hk (num_rng c) hr, RVerify_in r l (k / 16) 1 _ hl (by omega) (by omega) (ov_rng _) hr, RVerify_in r l (k / 16 / 16) 2 _ hl (by omega) (by omega) (ov_rng _) hr, loop_eq]
  simp only [spliceref20_Verify.step, spliceref20_Verify.l1]
  rw [if_neg (by omega)]
  simp only [stk]
  unfold mk
  rw [show k / 16 / 16 = k / 256 by omega]
theorem RVerify_out (r : Int) (k : Int) (c : spliceref05_Cell) (l : List Int) (h : ¬ (l.length = 45 ∧ 0 ≤ k ∧ k < 4096)) : spliceref20_Verify r k c l = some false := by
  unfold spliceref20_Verify
  have hj : spliceref20_Verify.j1 r k c l true = some false := by
    unfold spliceref20_Verify.j1
    rw [if_pos rfl]
  by_cases h1 : (l.length : Int) = 45
  · rw [if_pos h1]
    by_cases h2 : k < 0
    · rw [if_pos h2, hj]
    · rw [if_neg h2, decide_eq_true (by omega), hj]
  · rw [if_neg h1, hj]
theorem Get_out (t : merkle_Tree) {k : Int} (h : ¬ (0 ≤ k ∧ k < 4096)) : merkle_Tree_Get t k = some ⟨0, false⟩ := by
  unfold merkle_Tree_Get
  rw [isKey_eq, decide_eq_false h, if_neg (by decide)]

theorem splicelaw20_MerkleProves_true (a : List api_Pair) (k : Int) (l : List Int) (w0 : WfP a) (w1 : (Lit.int .i64 k).wf = true) (w2 : l.length ≤ maxLen ∧ ∀ x ∈ l, (Lit.int .u32 x).wf = true) : splicelaw20_MerkleProves a k l = some true := by
  unfold splicelaw20_MerkleProves
  by_cases ha : ¬ Tb a
  · rw [New_bad a w0.len ha]
    simp only [Option.bind_some, optE, splicelaw20_MerkleProves.j1, awake_eq, ite_self]
  replace ha := Classical.not_not.1 ha
  obtain ⟨t, e1, ht, hc⟩ := New_eq a w0.len ha
  rw [e1]
  simp only [Option.bind_some, optE]
  have hbad : splicelaw20_MerkleProves.j2 a k l t true = some true := by
    unfold splicelaw20_MerkleProves.j2
    rw [if_pos rfl, awake_eq]
    rfl
  rw [hbad]
  by_cases fa : ¬ splicelaw20_few a = true
  · rw [if_neg fa]
  replace fa := Classical.not_not.1 fa
  rw [if_pos fa, if_pos trivial]
  have la := (few_eq a).1 fa
  by_cases h100 : (l.length : Int) > 100
  · rw [decide_eq_true h100, hbad]
  rw [decide_eq_false h100]
  unfold splicelaw20_MerkleProves.j2
  rw [if_neg (by decide)]
  by_cases hk : ¬ (0 ≤ k ∧ k < 4096)
  · rw [Get_out t hk, Prove_out t hk]
    simp only [Option.bind_some]
    have hj : splicelaw20_MerkleProves.j3 a k l t ⟨0, false⟩ ([], 1) true = some true := by
      unfold splicelaw20_MerkleProves.j3
      rw [if_pos rfl, awake_eq]
      simp only [Option.bind_some]
      rw [if_pos trivial, if_pos (by simp), if_pos trivial, Verify_out _ _ _ _ (fun h => hk h.2)]
      rfl
    by_cases h0 : k < 0
    · rw [if_pos h0, hj]
    · rw [if_neg h0, decide_eq_true (by omega), hj]
  replace hk := Classical.not_not.1 hk
  obtain ⟨n, rfl⟩ := Int.eq_ofNat_of_zero_le hk.1
  have hn : n < 4096 := by omega
  rw [Get_in t hk, Prove_eq t n hn]
  simp only [Option.bind_some, Int.toNat_natCast]
  rw [if_neg (by omega), decide_eq_false (by omega)]
  unfold splicelaw20_MerkleProves.j3
  rw [if_neg (by decide), levels_eq a (by omega) ha ht hc]
  simp only [Option.bind_some]
  rw [RProve_eq t n hn]
  simp only [Option.bind_some]
  rw [if_pos trivial]
  unfold splicelaw20_MerkleProves.j5
  rw [if_neg (by simp)]
  have hv1 : merkle_Verify (merkle_Tree_Root t) (n : Int) (t.cells n) (prf t n) = some true := by
    rw [Verify_in _ n _ _ hn (prf_length t n) (prf_rng ht hn), mk_prf ht hn]
    simp [merkle_Tree_Root]
  have hv2 : ∃ b, merkle_Verify (merkle_Tree_Root t) (n : Int) (t.cells n) l = some b ∧ spliceref20_Verify (merkle_Tree_Root t) (n : Int) ⟨(t.cells n).Val, (t.cells n).Some⟩ l = some b := by
    by_cases hl : l.length = 45
    · have hr : ∀ x ∈ l, R32 x := fun x hx => u32wf (w2.2 x hx)
      exact ⟨_, Verify_in _ n _ _ hn hl hr, RVerify_eq _ n _ _ hn hl hr⟩
    · exact ⟨false, Verify_out _ _ _ _ (fun h => hl h.1), RVerify_out _ _ _ _ (fun h => hl h.1)⟩
  obtain ⟨b, hb1, hb2⟩ := hv2
  obtain ⟨r, h1, h2⟩ := for_post (step := splicelaw20_MerkleProves.step (n : Int) l t (t.cells n) (prf t n, 0) (prf t n)) (n := (prf t n).length) (fun i (_ : Unit) => splicelaw20_MerkleProves.S.l1 (i : Int)) (fun _ _ => True) (fun r => r = true) (by
    intro _ _
    refine ⟨true, ?_, rfl⟩
    simp only [splicelaw20_MerkleProves.step, splicelaw20_MerkleProves.l1]
    rw [if_neg (by omega), awake_eq]
    simp only [Option.bind_some]
    rw [if_pos trivial, hv1]
    simp only [Option.bind_some]
    rw [if_pos trivial, hb1, hb2]
    simp [splicelaw20_MerkleProves.j6]) (by
    intro i _ hi _
    left
    refine ⟨(), ?_, trivial⟩
    simp only [splicelaw20_MerkleProves.step, splicelaw20_MerkleProves.l1]
    rw [if_pos (by omega), if_pos (by omega), if_pos (by omega), if_pos trivial, wr1 hi (by rw [prf_length]; omega)]) 0 () (by omega) trivial
  rw [h2] at h1
  exact h1

/-- A value turned by bits that are moved up. -/
theorem forge_text (v bits at_ : Int) (hb : 0 ≤ bits ∧ bits < 4294967296) (ha : 0 ≤ at_) : ∃ a b : Nat, a ≤ 4 ∧ b < 4294967296 ∧ 0 ≤ IntKind.wrap .u64 (8 * IntKind.wrap .u64 (Int.tmod at_ 5)) ∧
    IntKind.wrap .i64 (bXor .u64 (IntKind.wrap .u64 v) (IntKind.wrap .u64 ((IntKind.wrap .u64 bits) * 2 ^ (min (IntKind.wrap .u64 (8 * (IntKind.wrap .u64 (Int.tmod at_ 5)))).toNat 64)))) = IntKind.wrap .i64 ((vu v ^^^ (b * 2 ^ (8 * a)) : Nat) : Int) ∧ b * 2 ^ (8 * a) < 18446744073709551616 := by
  refine ⟨(at_ % 5).toNat, bits.toNat, by omega, by omega, ?_⟩
  rw [Int.tmod_eq_emod_of_nonneg ha, wr64 (n := at_ % 5) (by omega), wr64 (n := 8 * (at_ % 5)) (by omega), wr64 (n := bits) (by omega)]
  have he : min (8 * (at_ % 5)).toNat 64 = 8 * (at_ % 5).toNat := by omega
  rw [he]
  have hbig : bits.toNat * 2 ^ (8 * (at_ % 5).toNat) < 18446744073709551616 := by
    have h1 : 2 ^ (8 * (at_ % 5).toNat) ≤ 2 ^ 32 := Nat.pow_le_pow_right (by omega) (by omega)
    have h2 : bits.toNat * 2 ^ (8 * (at_ % 5).toNat) ≤ bits.toNat * 2 ^ 32 := Nat.mul_le_mul_left _ h1
    omega
  have hc : bits * 2 ^ (8 * (at_ % 5).toNat) = ((bits.toNat * 2 ^ (8 * (at_ % 5).toNat) : Nat) : Int) := by
    rw [Int.natCast_mul, Int.natCast_pow, Int.toNat_of_nonneg hb.1]
    rfl
  rw [hc, wr64 (n := ((bits.toNat * 2 ^ (8 * (at_ % 5).toNat) : Nat) : Int)) (by omega), wr64m, bX64 (vu_lt v) hbig]
  exact ⟨by omega, rfl, hbig⟩
theorem splicelaw20_MerkleForged_true (a : List api_Pair) (w : Int) (x : splicelaw20_Bits) (w0 : WfP a) (w1 : (Lit.int .i64 w).wf = true) (w2 : (Lit.int .u32 x.Bits).wf = true ∧ (Lit.int .u8 x.At).wf = true) : splicelaw20_MerkleForged a w x = some true := by
  unfold splicelaw20_MerkleForged
  by_cases ha : ¬ Tb a
  · rw [New_bad a w0.len ha]
    simp only [Option.bind_some, optE, splicelaw20_MerkleForged.j1, awake_eq, ite_self]
  replace ha := Classical.not_not.1 ha
  obtain ⟨t, e1, ht, hc⟩ := New_eq a w0.len ha
  rw [e1]
  simp only [Option.bind_some, optE]
  have hbad : splicelaw20_MerkleForged.j2 a w x t true = some true := by
    unfold splicelaw20_MerkleForged.j2
    rw [if_pos rfl, awake_eq]
    rfl
  rw [hbad]
  by_cases fa : ¬ splicelaw20_few a = true
  · rw [if_neg fa]
  replace fa := Classical.not_not.1 fa
  rw [if_pos fa, if_pos trivial]
  have la := (few_eq a).1 fa
  by_cases hz : a.length = 0
  · rw [show ((a.length : Int) == 0) = true by simp [hz], hbad]
  rw [show ((a.length : Int) == 0) = false by simp [hz]]
  unfold splicelaw20_MerkleForged.j2
  rw [if_neg (by decide), if_pos (by omega)]
  obtain ⟨i, hi, hv5⟩ := which_eq w a.length (by omega) (by omega) (i64wf w1)
  have hbit := u32wf w2.1
  have hat : 0 ≤ x.At := by
    have := w2.2
    simp [Lit.wf, IntKind.min, IntKind.max, IntKind.bits, IntKind.signed] at this
    omega
  rw [hv5]
  simp only [Int.toNat_natCast]
  obtain ⟨q, b, hq, hb, hnn, htx, hbig⟩ := forge_text (a.getD i api_Pair.z).Val x.Bits x.At hbit hat
  rw [htx, if_pos (by omega), if_pos hnn]
  have hm : a.getD i api_Pair.z ∈ a := by
    rw [List.getD_eq_getElem?_getD, List.getElem?_eq_getElem hi]
    exact List.getElem_mem _
  have hok := ha.ok _ hm
  have hlk : look a (a.getD i api_Pair.z).Key = some (a.getD i api_Pair.z).Val := look_some ha.up hm
  generalize a.getD i api_Pair.z = X at *
  obtain ⟨k, hk⟩ := Int.eq_ofNat_of_zero_le hok.1
  have hk2 : k < 4096 := by have := hok.2.1; omega
  rw [hk] at hlk ⊢
  rw [Prove_eq t k hk2]
  simp only [bnd, Option.bind_some]
  rw [if_pos trivial, awake_eq]
  simp only [Option.bind_some]
  rw [if_pos trivial, Verify_in _ k _ _ hk2 (prf_length t k) (prf_rng ht hk2)]
  simp only [Option.bind_some]
  have ct : t.cells k = ⟨X.Val, true⟩ := by rw [hc k hk2, hlk]; rfl
  have hroot := mk_prf ht hk2
  have hvu := vu_wrap (vu X.Val ^^^ (b * 2 ^ (8 * q))) (Nat.xor_lt_two_pow (n := 64) (vu_lt _) hbig)
  have key : (mk k (num ⟨IntKind.wrap .i64 ((vu X.Val ^^^ (b * 2 ^ (8 * q)) : Nat) : Int), true⟩) (prf t k) == merkle_Tree_Root t) = (IntKind.wrap .i64 ((vu X.Val ^^^ (b * 2 ^ (8 * q)) : Nat) : Int) == X.Val) := by
    rw [Bool.eq_iff_iff, beq_iff_eq, beq_iff_eq]
    constructor
    · intro h
      have h2 : num ⟨IntKind.wrap .i64 ((vu X.Val ^^^ (b * 2 ^ (8 * q)) : Nat) : Int), true⟩ = num (t.cells k) := mk_inj (num_rng _) (num_rng _) (h.trans hroot.symm)
      rw [ct] at h2
      refine Classical.byContradiction fun hne => ?_
      have hx := xor_win (vu X.Val) b q hb
      refine num_apart q hq ?_ ?_ ?_ h2
      · rw [hvu]; exact hx.1
      · rw [hvu]; exact hx.2
      · intro e
        exact hne (vu_inj (wrap_rng _) (by have := hok.2.2; omega) e)
    · intro h
      rw [h, ← ct]
      exact hroot
  rw [key]
  simp [splicelaw20_MerkleForged.j3]
end Go.SyP
