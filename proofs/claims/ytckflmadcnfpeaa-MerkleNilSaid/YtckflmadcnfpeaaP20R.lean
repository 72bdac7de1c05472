/- What differs within four bytes has other numbers all the way up; the page's example. -/
import Derived.Test.YtckflmadcnfpeaaP20Q
set_option linter.unusedVariables false
set_option linter.unusedSimpArgs false
namespace Go.SyP
open Go Go.Sy Go.Crc

theorem ov_apart {p s : List Int} {x y : Int} (hx : R32 x) (hy : R32 y) (h : ov (p ++ [x] ++ s) = ov (p ++ [y] ++ s)) : x = y := by
  have h1 := U_inj h
  simp only [List.flatMap_append, List.flatMap_cons, List.flatMap_nil, List.append_nil] at h1
  have h2 := crc_apart (p := p.flatMap kb) (s := s.flatMap kb) h1
  obtain ⟨hx0, hx1⟩ := hx
  obtain ⟨hy0, hy1⟩ := hy
  obtain ⟨n, rfl⟩ := Int.eq_ofNat_of_zero_le hx0
  obtain ⟨m, rfl⟩ := Int.eq_ofNat_of_zero_le hy0
  simp only [Int.toNat_natCast] at h2
  omega
theorem win_split (x : Nat → Int) (a n j : Nat) (hj : j < n) : winL x a n = winL x a j ++ [x (a + j)] ++ winL x (a + j + 1) (n - j - 1) := by
  apply List.ext_getElem
  · simp only [List.length_append, winL_length, List.length_cons, List.length_nil]; omega
  · intro i h1 h2
    rw [List.getElem_append]
    split
    · rename_i h3
      rw [List.getElem_append]
      split
      · simp [winL]
      · rename_i h4
        simp only [List.length_append, winL_length, List.length_cons, List.length_nil] at h3 h4
        have : i = j := by omega
        subst this
        simp [winL]
    · rename_i h3
      simp only [List.length_append, winL_length, List.length_cons, List.length_nil] at h3
      simp only [winL, List.getElem_map, List.getElem_range]
      congr 1
      simp only [List.length_append, List.length_map, List.length_range, List.length_cons, List.length_nil]
      omega
theorem ov_win_apart {x y : Nat → Int} {a n j : Nat} (hj : j < n) (hx : R32 (x (a + j))) (hy : R32 (y (a + j))) (hs : ∀ i, i < n → i ≠ j → x (a + i) = y (a + i)) (hne : x (a + j) ≠ y (a + j)) :
    ov (winL x a n) ≠ ov (winL y a n) := by
  intro h
  rw [win_split x a n j hj, win_split y a n j hj] at h
  have e1 : winL x a j = winL y a j := win_congr fun i hi => hs i (by omega) (by omega)
  have e2 : winL x (a + j + 1) (n - j - 1) = winL y (a + j + 1) (n - j - 1) := win_congr fun i hi => by
    have := hs (j + 1 + i) (by omega) (by omega)
    rwa [show a + (j + 1 + i) = a + j + 1 + i by omega] at this
  rw [e1, e2] at h
  exact hne (ov_apart hx hy h)
/-- Two trees that differ at one key. -/
structure Twin (t u : merkle_Tree) (k : Nat) : Prop where
  leaf : ∀ j, j < 4096 → (t.leaf j ≠ u.leaf j ↔ j = k)
  low : ∀ j, j < 256 → (t.low j ≠ u.low j ↔ j = k / 16)
  mid : ∀ j, j < 16 → (t.mid j ≠ u.mid j ↔ j = k / 256)
  root : t.root ≠ u.root
theorem twin {t u : merkle_Tree} (ht : Inv t) (hu : Inv u) {k : Nat} (hk : k < 4096) (hs : ∀ j, j < 4096 → j ≠ k → t.cells j = u.cells j) (hne : num (t.cells k) ≠ num (u.cells k)) : Twin t u k := by
  have h1 : ∀ j, j < 4096 → (t.leaf j ≠ u.leaf j ↔ j = k) := by
    intro j hj
    rw [ht.leaf j hj, hu.leaf j hj]
    constructor
    · intro h
      by_cases e : j = k
      · exact e
      · exact absurd (by rw [hs j hj e]) h
    · rintro rfl; exact hne
  have h2 : ∀ j, j < 256 → (t.low j ≠ u.low j ↔ j = k / 16) := by
    intro j hj
    rw [ht.low j hj, hu.low j hj]
    constructor
    · intro h
      by_cases e : j = k / 16
      · exact e
      · refine absurd (congrArg ov (win_congr fun i hi => ?_)) h
        have := h1 (16 * j + i) (by omega)
        by_cases e2 : t.leaf (16 * j + i) = u.leaf (16 * j + i)
        · exact e2
        · have := this.1 e2; omega
    · rintro rfl
      refine ov_win_apart (j := k % 16) (by omega) (ht.rng1 _ (by omega)) (hu.rng1 _ (by omega)) (fun i hi hn => ?_) ?_
      · by_cases e2 : t.leaf (16 * (k / 16) + i) = u.leaf (16 * (k / 16) + i)
        · exact e2
        · have := (h1 _ (by omega)).1 e2; omega
      · exact (h1 _ (by omega)).2 (by omega)
  have h3 : ∀ j, j < 16 → (t.mid j ≠ u.mid j ↔ j = k / 256) := by
    intro j hj
    rw [ht.mid j hj, hu.mid j hj]
    constructor
    · intro h
      by_cases e : j = k / 256
      · exact e
      · refine absurd (congrArg ov (win_congr fun i hi => ?_)) h
        by_cases e2 : t.low (16 * j + i) = u.low (16 * j + i)
        · exact e2
        · have := (h2 _ (by omega)).1 e2; omega
    · rintro rfl
      refine ov_win_apart (j := k / 16 % 16) (by omega) (ht.rng2 _ (by omega)) (hu.rng2 _ (by omega)) (fun i hi hn => ?_) ?_
      · by_cases e2 : t.low (16 * (k / 256) + i) = u.low (16 * (k / 256) + i)
        · exact e2
        · have := (h2 _ (by omega)).1 e2; omega
      · exact (h2 _ (by omega)).2 (by omega)
  refine ⟨h1, h2, h3, ?_⟩
  rw [ht.root, hu.root]
  refine ov_win_apart (j := k / 256) (by omega) (ht.rng3 _ (by omega)) (hu.rng3 _ (by omega)) (fun i hi hn => ?_) ?_
  · by_cases e2 : t.mid (0 + i) = u.mid (0 + i)
    · exact e2
    · have := (h3 _ (by omega)).1 e2; omega
  · exact (h3 _ (by omega)).2 (by omega)
theorem filter_one (k n : Nat) (hk : k < n) (q : Nat → Bool) (h : ∀ j, j < n → (q j = true ↔ j = k)) : (List.range n).filter q = [k] := by
  have e : ∀ m, m ≤ n → (List.range m).filter q = if k < m then [k] else [] := by
    intro m
    induction m with
    | zero => intro _; rw [if_neg (by omega)]; rfl
    | succ m ih =>
      intro hm
      rw [List.range_succ, List.filter_append, ih (by omega)]
      by_cases e : m = k
      · subst e
        rw [if_neg (by omega), if_pos (by omega), List.filter_cons_of_pos ((h m (by omega)).2 rfl)]
        rfl
      · rw [List.filter_cons_of_neg (fun hq => e ((h m (by omega)).1 hq))]
        by_cases e2 : k < m
        · rw [if_pos e2, if_pos (by omega)]; rfl
        · rw [if_neg e2, if_neg (by omega)]; rfl
  rw [e n (Nat.le_refl _), if_pos hk]
theorem Twin.dks {t u : merkle_Tree} {k : Nat} (h : Twin t u k) (hk : k < 4096) : dks t u = [k] := by
  refine filter_one k 4096 hk _ fun j hj => ?_
  unfold dk
  simp only [Bool.and_eq_true, bne_iff_ne]
  rw [h.leaf j hj, h.low (j / 16) (by omega), h.mid (j / 256) (by omega)]
  constructor
  · rintro ⟨_, _, _, e⟩; exact e
  · rintro rfl; exact ⟨h.root, rfl, rfl, rfl⟩
theorem spans_one (k : Nat) : spansK [k] = [⟨(k : Int), (k : Int) + 1⟩] := by
  unfold spansK
  rw [show [k].foldl addK [] = [⟨(k : Int), (k : Int) + 1⟩] from rfl, cutS, dif_neg (by simp)]
theorem spans_none : spansK [] = [] := by
  unfold spansK
  rw [show ([] : List Nat).foldl addK [] = [] from rfl, cutS, dif_neg (by simp)]
theorem same_dks {t u : merkle_Tree} (ht : Inv t) (hu : Inv u) (hs : ∀ j, j < 4096 → t.cells j = u.cells j) : t.root = u.root ∧ dks t u = [] := by
  have h1 : ∀ j, j < 4096 → t.leaf j = u.leaf j := fun j hj => by rw [ht.leaf j hj, hu.leaf j hj, hs j hj]
  have h2 : ∀ j, j < 256 → t.low j = u.low j := fun j hj => by rw [ht.low j hj, hu.low j hj]; exact congrArg ov (win_congr fun i hi => h1 _ (by omega))
  have h3 : ∀ j, j < 16 → t.mid j = u.mid j := fun j hj => by rw [ht.mid j hj, hu.mid j hj]; exact congrArg ov (win_congr fun i hi => h2 _ (by omega))
  have h4 : t.root = u.root := by rw [ht.root, hu.root]; exact congrArg ov (win_congr fun i hi => h3 _ (by omega))
  refine ⟨h4, ?_⟩
  unfold dks
  exact filter_none fun k _ => by simp [dk, h4]

/-! ### Values -/
theorem hiE {x y N Q : Nat} (h : x / N = y / N) (E : Nat) (hq : Q = N * E) : x / Q % 256 = y / Q % 256 := by
  rw [hq, ← Nat.div_div_eq_div_mul, ← Nat.div_div_eq_div_mul, h]
theorem num_apart {v w : Int} (a : Nat) (ha : a ≤ 4) (h1 : vu v / 2 ^ (8 * a + 32) = vu w / 2 ^ (8 * a + 32)) (h2 : vu v % 2 ^ (8 * a) = vu w % 2 ^ (8 * a)) (hne : vu v ≠ vu w) : num ⟨v, true⟩ ≠ num ⟨w, true⟩ := by
  intro h
  have h3 : crc (1 :: vb v) = crc (1 :: vb w) := U_inj h
  have b1 : vu v < 18446744073709551616 := by unfold vu; omega
  have b2 : vu w < 18446744073709551616 := by unfold vu; omega
  simp only [vb] at h3
  generalize vu v = x at *
  generalize vu w = y at *
  apply hne
  have hc : a = 0 ∨ a = 1 ∨ a = 2 ∨ a = 3 ∨ a = 4 := by omega
  rcases hc with rfl | rfl | rfl | rfl | rfl
  · simp only [Nat.reduceMul, Nat.reduceAdd, Nat.reducePow] at h1 h2
    rw [show x / 72057594037927936 % 256 = y / 72057594037927936 % 256 by omega, show x / 281474976710656 % 256 = y / 281474976710656 % 256 by omega, show x / 1099511627776 % 256 = y / 1099511627776 % 256 by omega, show x / 4294967296 % 256 = y / 4294967296 % 256 by omega] at h3
    have := crc_apart (p := [1, y / 72057594037927936 % 256, y / 281474976710656 % 256, y / 1099511627776 % 256, y / 4294967296 % 256]) (s := []) h3
    omega
  · simp only [Nat.reduceMul, Nat.reduceAdd, Nat.reducePow] at h1 h2
    rw [hiE (Q := 72057594037927936) h1 65536 rfl, hiE (Q := 281474976710656) h1 256 rfl, show x / 1099511627776 % 256 = y / 1099511627776 % 256 by omega, show x % 256 = y % 256 by omega] at h3
    have := crc_apart (p := [1, y / 72057594037927936 % 256, y / 281474976710656 % 256, y / 1099511627776 % 256]) (s := [y % 256]) h3
    omega
  · simp only [Nat.reduceMul, Nat.reduceAdd, Nat.reducePow] at h1 h2
    rw [hiE (Q := 72057594037927936) h1 256 rfl, show x / 281474976710656 % 256 = y / 281474976710656 % 256 by omega, show x / 256 % 256 = y / 256 % 256 by omega, show x % 256 = y % 256 by omega] at h3
    have := crc_apart (p := [1, y / 72057594037927936 % 256, y / 281474976710656 % 256]) (s := [y / 256 % 256, y % 256]) h3
    omega
  · simp only [Nat.reduceMul, Nat.reduceAdd, Nat.reducePow] at h1 h2
    rw [show x / 72057594037927936 % 256 = y / 72057594037927936 % 256 by omega, show x / 65536 % 256 = y / 65536 % 256 by omega, show x / 256 % 256 = y / 256 % 256 by omega, show x % 256 = y % 256 by omega] at h3
    have := crc_apart (p := [1, y / 72057594037927936 % 256]) (s := [y / 65536 % 256, y / 256 % 256, y % 256]) h3
    omega
  · simp only [Nat.reduceMul, Nat.reduceAdd, Nat.reducePow] at h1 h2
    rw [show x / 16777216 % 256 = y / 16777216 % 256 by omega, show x / 65536 % 256 = y / 65536 % 256 by omega, show x / 256 % 256 = y / 256 % 256 by omega, show x % 256 = y % 256 by omega] at h3
    have := crc_apart (p := [1]) (s := [y / 16777216 % 256, y / 65536 % 256, y / 256 % 256, y % 256]) h3
    omega
theorem xor_win (u b a : Nat) (hb : b < 4294967296) : (u ^^^ (b * 2 ^ (8 * a))) / 2 ^ (8 * a + 32) = u / 2 ^ (8 * a + 32) ∧ (u ^^^ (b * 2 ^ (8 * a))) % 2 ^ (8 * a) = u % 2 ^ (8 * a) := by
  constructor
  · rw [← Nat.shiftRight_eq_div_pow, ← Nat.shiftRight_eq_div_pow, Nat.shiftRight_xor_distrib, Nat.shiftRight_eq_div_pow (b * _)]
    rw [show b * 2 ^ (8 * a) / 2 ^ (8 * a + 32) = 0 from Nat.div_eq_of_lt (by rw [Nat.pow_add, Nat.mul_comm]; exact Nat.mul_lt_mul_of_pos_left hb (Nat.two_pow_pos _))]
    exact Nat.xor_zero _
  · rw [Nat.xor_mod_two_pow, Nat.mul_mod_left, Nat.xor_zero]
theorem bX64 {a b : Nat} (ha : a < 18446744073709551616) (hb : b < 18446744073709551616) : bXor .u64 (a : Int) (b : Int) = ((a ^^^ b : Nat) : Int) := by
  show IntKind.wrap .u64 (((BitVec.ofInt 64 ((a : Nat) : Int) ^^^ BitVec.ofInt 64 ((b : Nat) : Int)).toNat : Nat) : Int) = _
  rw [BitVec.ofInt_natCast, BitVec.ofInt_natCast, BitVec.toNat_xor, BitVec.toNat_ofNat, BitVec.toNat_ofNat, Nat.mod_eq_of_lt ha, Nat.mod_eq_of_lt hb]
  have : a ^^^ b < 2 ^ 64 := Nat.xor_lt_two_pow ha hb
  exact wr64 (by omega)
theorem vu_wrap (w : Nat) (h : w < 18446744073709551616) : vu (IntKind.wrap .i64 (w : Int)) = w := by
  simp only [vu, IntKind.wrap, IntKind.bits, IntKind.signed]
  simp
  omega
theorem vu_lt (v : Int) : vu v < 18446744073709551616 := by unfold vu; omega
theorem vu_inj {v w : Int} (hv : -9223372036854775808 ≤ v ∧ v ≤ 9223372036854775807) (hw : -9223372036854775808 ≤ w ∧ w ≤ 9223372036854775807) (h : vu v = vu w) : v = w := by
  unfold vu at h
  omega
theorem wrap_rng (w : Int) : -9223372036854775808 ≤ IntKind.wrap .i64 w ∧ IntKind.wrap .i64 w ≤ 9223372036854775807 := by
  simp only [IntKind.wrap, IntKind.bits, IntKind.signed]
  simp
  omega

/-! ### The page's example -/
theorem tb_one {k v : Int} (h : okP ⟨k, v⟩) : Tb [⟨k, v⟩] := ⟨fun x hx => by simp at hx; subst hx; exact h, by unfold Up; simp⟩
theorem awake_eq : splicelaw20_awake = some true := by
  obtain ⟨t, e1, ht, hc⟩ := New_eq [⟨5, 7⟩] (by simp) (tb_one (by unfold okP; simp))
  obtain ⟨u, e2, hu, hd⟩ := New_eq [⟨5, 8⟩] (by simp) (tb_one (by unfold okP; simp))
  have ct : t.cells 5 = ⟨7, true⟩ := hc 5 (by omega)
  have cu : u.cells 5 = ⟨8, true⟩ := hd 5 (by omega)
  have tw : Twin t u 5 := by
    refine twin ht hu (by omega) (fun j hj hn => ?_) ?_
    · rw [hc j hj, hd j hj]
      simp only [look]
      rw [if_neg (by show ¬ (5 : Int) = j; omega), if_neg (by show ¬ (5 : Int) = j; omega)]
    · rw [ct, cu]
      exact num_apart 0 (by omega) (by decide) (by decide) (by decide)
  unfold splicelaw20_awake
  rw [e1, e2]
  simp only [Option.bind_some, optE]
  rw [Diff_eq, tw.dks (by omega), spans_one, Number_eq]
  simp only [Option.bind_some, merkle_Tree_Root]
  simp [splicelaw20_awake.j4, tw.root, num]
end Go.SyP
