/- Numbers of cells and nodes; a tree whose numbers are those of its cells, and how it comes to be. -/
import Derived.Test.YtckflmadcnfpeaaP20L
set_option linter.unusedVariables false
set_option linter.unusedSimpArgs false
namespace Go.SyP
open Go Go.Sy Go.Crc

/-- A number's bytes. -/
def kb (k : Int) : List Nat := [k.toNat / 16777216 % 256, k.toNat / 65536 % 256, k.toNat / 256 % 256, k.toNat % 256]
/-- The number of a node of kids. -/
def ov (a : List Int) : Int := U (crc (a.flatMap kb))
def R32 (k : Int) : Prop := 0 ≤ k ∧ k < 4294967296
theorem ov_rng (a : List Int) : R32 (ov a) := U_rng _
/-- A value's bytes. -/
def vu (v : Int) : Nat := (v % 18446744073709551616).toNat
def vb (v : Int) : List Nat := [vu v / 72057594037927936 % 256, vu v / 281474976710656 % 256, vu v / 1099511627776 % 256, vu v / 4294967296 % 256, vu v / 16777216 % 256, vu v / 65536 % 256, vu v / 256 % 256, vu v % 256]
/-- The number of a cell. -/
def num (c : api_Cell) : Int := if c.Some = true then U (crc (1 :: vb c.Val)) else 0
theorem num_rng (c : api_Cell) : R32 (num c) := by
  unfold num
  split
  · exact U_rng _
  · exact ⟨by omega, by omega⟩
theorem num_none : num ⟨0, false⟩ = 0 := rfl

theorem kb_length (l : List Int) : (l.flatMap kb).length = 4 * l.length := by
  induction l with
  | nil => rfl
  | cons x l ih => rw [List.flatMap_cons, List.length_append, ih]; simp [kb]; omega

theorem over_loop (a : List Int) (hr : ∀ k ∈ a, R32 k) (hn : a.length ≤ 1000) : ∀ (m i : Nat) (r : List Int), i + m = a.length → (r.map fun n => n.toNat % 256) = (a.take i).flatMap kb →
    goLoop (merkle_over.step a) (.l1 (i : Int) r) = some (ov a) := by
  intro m
  induction m with
  | zero =>
    intro i r h hr0
    have hl : r.length = 4 * i := by
      have := congrArg List.length hr0
      rw [List.length_map, kb_length, List.length_take] at this
      omega
    rw [loop_eq]
    simp only [merkle_over.step, merkle_over.l1]
    rw [if_neg (by omega), cks_eq _ (by show (strB r).size ≤ _; have : (strB r).size = r.length := by simp [strB, ByteArray.size]
                                        omega)]
    rw [take_all (by omega)] at hr0
    simp only [Option.bind_some, stk]
    rw [bys_strB, hr0]
    rfl
  | succ m ih =>
    intro i r h hr0
    have hl : r.length = 4 * i := by
      have := congrArg List.length hr0
      rw [List.length_map, kb_length, List.length_take] at this
      omega
    rw [loop_eq]
    simp only [merkle_over.step, merkle_over.l1]
    rw [if_pos (by omega), if_pos (by omega), if_pos (by simp only [List.length_cons, List.length_nil]; omega)]
    simp only [stk]
    rw [wr1 (i := i) (n := a.length) (by omega) (by omega)]
    refine ih (i + 1) _ (by omega) ?_
    rw [take_atI (z := 0) (by omega), List.map_append, hr0, List.flatMap_append]
    congr 1
    have hx : R32 (a.getD (i : Int).toNat 0) := hr _ (by
      rw [List.getD_eq_getElem?_getD, List.getElem?_eq_getElem (by omega)]
      exact List.getElem_mem _)
    generalize a.getD (i : Int).toNat 0 = x at hx ⊢
    obtain ⟨h0, h1⟩ := hx
    obtain ⟨n, rfl⟩ := Int.eq_ofNat_of_zero_le h0
    simp only [List.flatMap_cons, List.flatMap_nil, kb, List.append_nil, List.map_cons, List.map_nil, IntKind.wrap, IntKind.bits, IntKind.signed, Int.fdiv_eq_ediv_of_nonneg _ (show (0 : Int) ≤ 16777216 by omega), Int.fdiv_eq_ediv_of_nonneg _ (show (0 : Int) ≤ 65536 by omega), Int.fdiv_eq_ediv_of_nonneg _ (show (0 : Int) ≤ 256 by omega)]
    simp
    omega
theorem over_eq (a : List Int) (hr : ∀ k ∈ a, R32 k) (hn : a.length ≤ 1000) : merkle_over a = some (ov a) := over_loop a hr hn a.length 0 [] (by omega) rfl
theorem ovr_loop (a : List Int) (hr : ∀ k ∈ a, R32 k) (hn : a.length ≤ 1000) : ∀ (m i : Nat) (r : List Int), i + m = a.length → (r.map fun n => n.toNat % 256) = (a.take i).flatMap kb →
    goLoop (spliceref20_Over.step a) (.l1 (i : Int) r) = some (ov a) := by
  intro m
  induction m with
  | zero =>
    intro i r h hr0
    have hl : r.length = 4 * i := by
      have := congrArg List.length hr0
      rw [List.length_map, kb_length, List.length_take] at this
      omega
    rw [loop_eq]
    simp only [spliceref20_Over.step, spliceref20_Over.l1]
    rw [if_neg (by omega), ref_eq _ (by show (strB r).size ≤ _; have : (strB r).size = r.length := by simp [strB, ByteArray.size]
                                        omega)]
    rw [take_all (by omega)] at hr0
    simp only [Option.bind_some, stk]
    rw [bys_strB, hr0]
    rfl
  | succ m ih =>
    intro i r h hr0
    have hl : r.length = 4 * i := by
      have := congrArg List.length hr0
      rw [List.length_map, kb_length, List.length_take] at this
      omega
    rw [loop_eq]
    simp only [spliceref20_Over.step, spliceref20_Over.l1]
    rw [if_pos (by omega), if_pos (by omega), if_pos (by omega), if_pos (by simp only [List.length_append, List.length_cons, List.length_nil]; omega), if_pos (by simp only [List.length_append, List.length_cons, List.length_nil]; omega), if_pos (by simp only [List.length_append, List.length_cons, List.length_nil]; omega)]
    simp only [stk]
    rw [wr1 (i := i) (n := a.length) (by omega) (by omega)]
    refine ih (i + 1) _ (by omega) ?_
    simp only [List.append_assoc]
    rw [take_atI (z := 0) (by omega), List.map_append, hr0, List.flatMap_append]
    congr 1
    have hx : R32 (a.getD (i : Int).toNat 0) := hr _ (by
      rw [List.getD_eq_getElem?_getD, List.getElem?_eq_getElem (by omega)]
      exact List.getElem_mem _)
    generalize a.getD (i : Int).toNat 0 = x at hx ⊢
    obtain ⟨h0, h1⟩ := hx
    obtain ⟨n, rfl⟩ := Int.eq_ofNat_of_zero_le h0
    simp only [List.flatMap_cons, List.flatMap_nil, kb, List.append_nil, List.map_cons, List.map_nil, List.map_append, List.cons_append, List.nil_append, IntKind.wrap, IntKind.bits, IntKind.signed, Int.tdiv_eq_ediv_of_nonneg h0]
    simp
    omega
theorem ovr_eq (a : List Int) (hr : ∀ k ∈ a, R32 k) (hn : a.length ≤ 1000) : spliceref20_Over a = some (ov a) := ovr_loop a hr hn a.length 0 [] (by omega) rfl

theorem wr64m (v : Int) : IntKind.wrap .u64 v = ((vu v : Nat) : Int) := by
  simp [IntKind.wrap, IntKind.bits, IntKind.signed, vu]; omega
theorem Number_eq (c : api_Cell) : merkle_Number c = some (num c) := by
  unfold merkle_Number num
  by_cases h : c.Some = true
  · rw [if_pos h, if_pos h]
    simp only [List.length_append, List.length_cons, List.length_nil]
    rw [if_pos (by omega), if_pos (by omega), if_pos (by omega), if_pos (by omega), if_pos (by omega), if_pos (by omega), if_pos (by omega), if_pos (by omega)]
    rw [cks_eq _ (by simp [strB, ByteArray.size])]
    simp only [Option.bind_some]
    congr 3
    rw [bys_strB, wr64m]
    simp only [vb]
    generalize vu c.Val = u
    simp only [List.map_append, List.map_cons, List.map_nil, List.cons_append, List.nil_append, IntKind.wrap, IntKind.bits, IntKind.signed, Int.fdiv_eq_ediv_of_nonneg _ (show (0 : Int) ≤ 72057594037927936 by omega), Int.fdiv_eq_ediv_of_nonneg _ (show (0 : Int) ≤ 281474976710656 by omega), Int.fdiv_eq_ediv_of_nonneg _ (show (0 : Int) ≤ 1099511627776 by omega), Int.fdiv_eq_ediv_of_nonneg _ (show (0 : Int) ≤ 4294967296 by omega), Int.fdiv_eq_ediv_of_nonneg _ (show (0 : Int) ≤ 16777216 by omega), Int.fdiv_eq_ediv_of_nonneg _ (show (0 : Int) ≤ 65536 by omega), Int.fdiv_eq_ediv_of_nonneg _ (show (0 : Int) ≤ 256 by omega), Int.fdiv_eq_ediv_of_nonneg _ (show (0 : Int) ≤ 1 by omega)]
    simp
    omega
  · rw [if_neg h, if_neg h]
theorem bytes8 (a b c d e f g h : Int) (l : List Nat) (H : [a, b, c, d, e, f, g, h].map (fun n : Int => n.toNat % 256) = l) : True := trivial
theorem sh (u : Nat) (v : Int) (j : Nat) (hj : j < 8) : IntKind.wrap .u8 (Int.fdiv ((u : Nat) : Int) (2 ^ (min (IntKind.wrap .u64 (IntKind.wrap .i64 (8 * ((j : Nat) : Int)))).toNat 64))) = ((u / 256 ^ j % 256 : Nat) : Int) := by
  rw [wr (by omega), wr64 (by omega), show min (8 * (j : Int)).toNat 64 = 8 * j by omega]
  rw [Int.fdiv_eq_ediv_of_nonneg _ (by exact Int.le_of_lt (Int.pow_pos (by omega)))]
  rw [show ((2 : Int) ^ (8 * j)) = ((256 ^ j : Nat) : Int) by rw [Int.pow_mul, Int.natCast_pow]; rfl]
  rw [show ((u : Nat) : Int) / ((256 ^ j : Nat) : Int) = ((u / 256 ^ j : Nat) : Int) from rfl]
  generalize u / 256 ^ j = q
  simp [IntKind.wrap, IntKind.bits, IntKind.signed]
theorem NumberR_step (c : spliceref05_Cell) (j : Nat) (r : List Int) (hj : j < 8) (hr : r.length ≤ 100) :
    goLoop (spliceref20_Number.step c) (.l1 ((j : Nat) : Int) r) = goLoop (spliceref20_Number.step c) (.l1 ((j : Nat) - 1 : Int) (r ++ [((vu c.Val / 256 ^ j % 256 : Nat) : Int)])) := by
  rw [loop_eq]
  simp only [spliceref20_Number.step, spliceref20_Number.l1]
  rw [if_pos (by omega), if_pos (by rw [wr (by omega), wr64 (by omega)]; omega), if_pos (by omega), wr64m, sh _ c.Val j hj, wr (by omega)]
  rfl
theorem NumberR_eq (c : api_Cell) : spliceref20_Number ⟨c.Val, c.Some⟩ = some (num c) := by
  unfold spliceref20_Number num
  by_cases h : c.Some = true
  · rw [if_pos h, if_pos h]
    have s := NumberR_step ⟨c.Val, c.Some⟩
    rw [show (7 : Int) = ((7 : Nat) : Int) from rfl, s 7 _ (by omega) (by simp), show ((7 : Nat) : Int) - 1 = ((6 : Nat) : Int) from rfl, s 6 _ (by omega) (by simp), show ((6 : Nat) : Int) - 1 = ((5 : Nat) : Int) from rfl, s 5 _ (by omega) (by simp),
      show ((5 : Nat) : Int) - 1 = ((4 : Nat) : Int) from rfl, s 4 _ (by omega) (by simp), show ((4 : Nat) : Int) - 1 = ((3 : Nat) : Int) from rfl, s 3 _ (by omega) (by simp), show ((3 : Nat) : Int) - 1 = ((2 : Nat) : Int) from rfl, s 2 _ (by omega) (by simp),
      show ((2 : Nat) : Int) - 1 = ((1 : Nat) : Int) from rfl, s 1 _ (by omega) (by simp), show ((1 : Nat) : Int) - 1 = ((0 : Nat) : Int) from rfl, s 0 _ (by omega) (by simp)]
    rw [loop_eq]
    simp only [spliceref20_Number.step, spliceref20_Number.l1]
    rw [if_neg (by omega), ref_eq _ (by simp [strB, ByteArray.size])]
    simp only [Option.bind_some, stk]
    congr 3
    rw [bys_strB]
    simp only [List.map_append, List.map_cons, List.map_nil, List.cons_append, List.nil_append, vb]
    generalize vu c.Val = u
    simp
    omega
  · rw [if_neg h, if_neg h]

/-! ### Trees -/
/-- The numbers are those of the cells. -/
structure Inv (t : merkle_Tree) : Prop where
  leaf : ∀ k, k < 4096 → t.leaf k = num (t.cells k)
  low : ∀ i, i < 256 → t.low i = ov (winL t.leaf (16 * i) 16)
  mid : ∀ i, i < 16 → t.mid i = ov (winL t.low (16 * i) 16)
  root : t.root = ov (winL t.mid 0 16)
theorem win_mem {x : Nat → Int} {a n : Nat} {k : Int} (h : k ∈ winL x a n) : ∃ j, j < n ∧ k = x (a + j) := by
  unfold winL at h
  obtain ⟨j, h1, h2⟩ := List.mem_map.1 h
  exact ⟨j, List.mem_range.1 h1, h2.symm⟩
theorem win_congr {x y : Nat → Int} {a b n : Nat} (h : ∀ j, j < n → x (a + j) = y (b + j)) : winL x a n = winL y b n := by
  unfold winL
  exact List.map_congr_left fun j hj => h j (List.mem_range.1 hj)
theorem over_win {x : Nat → Int} {a n : Nat} (hn : n ≤ 1000) (h : ∀ j, j < n → R32 (x (a + j))) : merkle_over (winL x a n) = some (ov (winL x a n)) :=
  over_eq _ (fun k hk => by obtain ⟨j, h1, rfl⟩ := win_mem hk; exact h j h1) (by rw [winL_length]; exact hn)

theorem zero_rng : R32 0 := ⟨by omega, by omega⟩
def Z0 : Int := ov (winL (fun _ => (0 : Int)) 0 16)
theorem for_go {σ ρ α : Type} {step : σ → Option (σ ⊕ ρ)} {n : Nat} (st : Nat → α → σ) (I : Nat → α → Prop)
    (hstep : ∀ i x, i < n → I i x → ∃ y, step (st i x) = some (.inl (st (i + 1) y)) ∧ I (i + 1) y) : ∀ i x, i ≤ n → I i x → ∃ y, I n y ∧ goLoop step (st i x) = goLoop step (st n y) := by
  have key : ∀ m i x, i + m = n → I i x → ∃ y, I n y ∧ goLoop step (st i x) = goLoop step (st n y) := by
    intro m
    induction m with
    | zero =>
      intro i x hi hI
      obtain rfl : i = n := by omega
      exact ⟨x, hI, rfl⟩
    | succ m ih =>
      intro i x hi hI
      obtain ⟨y, h1, h2⟩ := hstep i x (by omega) hI
      obtain ⟨z, h3, h4⟩ := ih (i + 1) y (by omega) h2
      exact ⟨z, h3, by rw [loop_eq, h1]; exact h4⟩
  exact fun i x h => key (n - i) i x (by omega)
theorem upd_at {α : Type} (x : Nat → α) (i : Nat) (v : α) : upd x i v i = v := by simp [upd]
theorem upd_ne {α : Type} (x : Nat → α) {i j : Nat} (v : α) (h : j ≠ i) : upd x i v j = x j := by simp [upd, h]
def Z1 : Int := ov (winL (fun _ => Z0) 0 16)
theorem empty_eq : ∃ t, merkle_empty = some t ∧ Inv t ∧ ∀ k, k < 4096 → t.cells k = ⟨0, false⟩ := by
  unfold merkle_empty
  obtain ⟨x, ⟨hc, hl, hw⟩, e1⟩ := for_go (step := merkle_empty.step) (n := 256) (fun i x => merkle_empty.S.l1 (i : Int) x) (fun i x => x.cells = (fun _ => api_Cell.z) ∧ x.leaf = (fun _ => 0) ∧ ∀ j, j < i → x.low j = Z0) (by
    rintro i x hi ⟨hc, hl, hw⟩
    refine ⟨{ x with low := upd x.low i Z0 }, ?_, hc, hl, ?_⟩
    · simp only [merkle_empty.step, merkle_empty.l1, hl]
      rw [if_pos (by omega), over_win (by omega) (fun _ _ => zero_rng)]
      simp only [Option.bind_some]
      rw [if_pos (by omega), wr1 (n := 256) hi (by omega)]
      rfl
    · intro j hj
      show upd x.low i Z0 j = _
      by_cases h : j = i
      · subst h; exact upd_at ..
      · rw [upd_ne _ _ h]; exact hw j (by omega)) 0 merkle_Tree.z (by omega) ⟨rfl, rfl, fun j hj => by omega⟩
  rw [show (merkle_empty.S.l1 0 merkle_Tree.z) = merkle_empty.S.l1 ((0 : Nat) : Int) merkle_Tree.z from rfl, e1, loop_eq]
  simp only [merkle_empty.step, merkle_empty.l1]
  rw [if_neg (by omega)]
  simp only [stk]
  have hz : R32 Z0 := ov_rng _
  obtain ⟨y, ⟨hc2, hl2, hw2, hm2⟩, e2⟩ := for_go (step := merkle_empty.step) (n := 16) (fun i x => merkle_empty.S.l2 (i : Int) x) (fun i x => x.cells = (fun _ => api_Cell.z) ∧ x.leaf = (fun _ => 0) ∧ (∀ j, j < 256 → x.low j = Z0) ∧ ∀ j, j < i → x.mid j = Z1) (by
    rintro i x hi ⟨hc, hl, hw, hm⟩
    refine ⟨{ x with mid := upd x.mid i Z1 }, ?_, hc, hl, hw, ?_⟩
    · simp only [merkle_empty.step, merkle_empty.l2]
      rw [if_pos (by omega), over_win (by omega) (fun j hj => by rw [hw _ (by omega)]; exact hz)]
      simp only [Option.bind_some]
      rw [if_pos (by omega), wr1 (n := 16) hi (by omega), show winL x.low 0 16 = winL (fun _ => Z0) 0 16 from win_congr fun j hj => hw _ (by omega)]
      rfl
    · intro j hj
      show upd x.mid i Z1 j = _
      by_cases h : j = i
      · subst h; exact upd_at ..
      · rw [upd_ne _ _ h]; exact hm j (by omega)) 0 x (by omega) ⟨hc, hl, hw, fun j hj => by omega⟩
  rw [show (merkle_empty.S.l2 0 x) = merkle_empty.S.l2 ((0 : Nat) : Int) x from rfl, e2, loop_eq]
  simp only [merkle_empty.step, merkle_empty.l2]
  rw [if_neg (by omega), over_win (by omega) (fun j hj => by rw [hm2 _ (by omega)]; exact ov_rng _)]
  simp only [Option.bind_some, bnd, stk]
  refine ⟨_, rfl, ⟨fun k hk => ?_, fun i hi => ?_, fun i hi => ?_, rfl⟩, fun k hk => ?_⟩
  · show y.leaf k = num (y.cells k)
    rw [hl2, hc2]; rfl
  · show y.low i = ov (winL y.leaf (16 * i) 16)
    rw [hw2 i hi, hl2]
    exact congrArg ov (win_congr fun _ _ => rfl)
  · show y.mid i = ov (winL y.low (16 * i) 16)
    rw [hm2 i hi]
    exact congrArg ov (win_congr fun j hj => (hw2 _ (by omega)).symm)
  · show y.cells k = _
    rw [hc2]; rfl

/-- A key has a cell: all numbers made anew. -/
def upT (t : merkle_Tree) (k : Nat) : merkle_Tree :=
  let low := upd t.low (k / 16) (ov (winL t.leaf (16 * (k / 16)) 16))
  let mid := upd t.mid (k / 256) (ov (winL low (16 * (k / 256)) 16))
  { t with low := low, mid := mid, root := ov (winL mid 0 16) }
def putT (t : merkle_Tree) (k : Nat) (c : api_Cell) : merkle_Tree := upT { t with cells := upd t.cells k c, leaf := upd t.leaf k (num c) } k
theorem up_eq (t : merkle_Tree) (k : Nat) (hk : k < 4096) (h1 : ∀ j, j < 4096 → R32 (t.leaf j)) (h2 : ∀ j, j < 256 → R32 (t.low j)) (h3 : ∀ j, j < 16 → R32 (t.mid j)) : merkle_Tree_up t (k : Int) = some (upT t k) := by
  unfold merkle_Tree_up
  have e1 : IntKind.wrap .i64 (Int.tdiv (k : Int) 16) = ((k / 16 : Nat) : Int) := by rw [Int.tdiv_eq_ediv_of_nonneg (by omega), wr (by omega)]; omega
  have e2 : IntKind.wrap .i64 (Int.tdiv ((k / 16 : Nat) : Int) 16) = ((k / 256 : Nat) : Int) := by rw [Int.tdiv_eq_ediv_of_nonneg (by omega), wr (by omega)]; omega
  have e3 : IntKind.wrap .i64 (((k / 16 : Nat) : Int) * 16) = ((16 * (k / 16) : Nat) : Int) := by rw [wr (by omega)]; omega
  have e4 : IntKind.wrap .i64 (IntKind.wrap .i64 (((k / 16 : Nat) : Int) + 1) * 16) = ((16 * (k / 16) + 16 : Nat) : Int) := by rw [wr (n := ((k / 16 : Nat) : Int) + 1) (by omega), wr (by omega)]; omega
  have e5 : IntKind.wrap .i64 (((k / 256 : Nat) : Int) * 16) = ((16 * (k / 256) : Nat) : Int) := by rw [wr (by omega)]; omega
  have e6 : IntKind.wrap .i64 (IntKind.wrap .i64 (((k / 256 : Nat) : Int) + 1) * 16) = ((16 * (k / 256) + 16 : Nat) : Int) := by rw [wr (n := ((k / 256 : Nat) : Int) + 1) (by omega), wr (by omega)]; omega
  simp only [e1, e2, e3, e4, bnd, e5, e6]
  rw [if_pos (by omega)]
  simp only [Int.toNat_natCast, show 16 * (k / 16) + 16 - 16 * (k / 16) = 16 by omega, show 16 * (k / 256) + 16 - 16 * (k / 256) = 16 by omega]
  rw [over_win (by omega) (fun j hj => h1 _ (by omega))]
  simp only [Option.bind_some]
  rw [if_pos (by omega), if_pos (by omega), over_win (by omega) (fun j hj => by
    by_cases h : 16 * (k / 256) + j = k / 16
    · rw [h, upd_at]; exact ov_rng _
    · rw [upd_ne _ _ h]; exact h2 _ (by omega))]
  simp only [Option.bind_some]
  rw [if_pos (by omega), over_win (by omega) (fun j hj => by
    by_cases h : 0 + j = k / 256
    · rw [h, upd_at]; exact ov_rng _
    · rw [upd_ne _ _ h]; exact h3 _ (by omega))]
  rfl
theorem Inv.rng1 {t : merkle_Tree} (h : Inv t) : ∀ j, j < 4096 → R32 (t.leaf j) := fun j hj => by rw [h.leaf j hj]; exact num_rng _
theorem Inv.rng2 {t : merkle_Tree} (h : Inv t) : ∀ j, j < 256 → R32 (t.low j) := fun j hj => by rw [h.low j hj]; exact ov_rng _
theorem Inv.rng3 {t : merkle_Tree} (h : Inv t) : ∀ j, j < 16 → R32 (t.mid j) := fun j hj => by rw [h.mid j hj]; exact ov_rng _
theorem put_eq (t : merkle_Tree) (h : Inv t) (k : Nat) (c : api_Cell) (hk : k < 4096) : merkle_Tree_put t (k : Int) c = some (putT t k c) := by
  unfold merkle_Tree_put
  rw [if_pos (by omega), Number_eq]
  simp only [Option.bind_some, bnd, Int.toNat_natCast]
  rw [up_eq { t with cells := upd t.cells k c, leaf := upd t.leaf k (num c) } k hk (fun j hj => ?_) h.rng2 h.rng3]
  · rfl
  · show R32 (upd t.leaf k (num c) j)
    by_cases e : j = k
    · rw [e, upd_at]; exact num_rng _
    · rw [upd_ne _ _ e]; exact h.rng1 _ hj
theorem put_cells (t : merkle_Tree) (k : Nat) (c : api_Cell) : (putT t k c).cells = upd t.cells k c := rfl
theorem put_inv {t : merkle_Tree} (h : Inv t) {k : Nat} (c : api_Cell) (hk : k < 4096) : Inv (putT t k c) := by
  have hl : (putT t k c).leaf = upd t.leaf k (num c) := rfl
  have hw : (putT t k c).low = upd t.low (k / 16) (ov (winL (putT t k c).leaf (16 * (k / 16)) 16)) := rfl
  have hm : (putT t k c).mid = upd t.mid (k / 256) (ov (winL (putT t k c).low (16 * (k / 256)) 16)) := rfl
  refine ⟨fun j hj => ?_, fun i hi => ?_, fun i hi => ?_, rfl⟩
  · rw [hl, put_cells]
    by_cases e : j = k
    · rw [e, upd_at, upd_at]
    · rw [upd_ne _ _ e, upd_ne _ _ e]; exact h.leaf j hj
  · rw [hw]
    by_cases e : i = k / 16
    · rw [e, upd_at]
    · rw [upd_ne _ _ e, h.low i hi]
      refine congrArg ov (win_congr fun j hj => ?_)
      rw [hl, upd_ne _ _ (by omega)]
  · rw [hm]
    by_cases e : i = k / 256
    · rw [e, upd_at]
    · rw [upd_ne _ _ e, h.mid i hi]
      refine congrArg ov (win_congr fun j hj => ?_)
      rw [hw, upd_ne _ _ (by omega)]

/-- The cell of what there may be. -/
def cellO (o : Option Int) : api_Cell := match o with | some v => ⟨v, true⟩ | none => ⟨0, false⟩
theorem look_snoc {l : List api_Pair} {x : api_Pair} (h : ∀ y ∈ l, y.Key ≠ x.Key) (k : Int) : look (l ++ [x]) k = if k = x.Key then some x.Val else look l k := by
  induction l with
  | nil => simp only [List.nil_append, look, eq_comm]
  | cons y l ih =>
    simp only [List.cons_append, look]
    rw [ih fun z hz => h z (List.mem_cons_of_mem _ hz)]
    have := h y (by simp)
    by_cases e : k = x.Key
    · subst e; simp [this, Ne.symm this]
    · simp [e]
theorem New_bad (a : List api_Pair) (hn : a.length ≤ 9223372036854775807) (h : ¬ Tb a) : merkle_New a = some (none, 1) := by
  obtain ⟨r, e, he⟩ := table_Check_eq a hn
  unfold merkle_New
  rw [e]
  simp only [Option.bind_some]
  rw [if_neg (by rw [he]; exact h)]
theorem New_eq (a : List api_Pair) (hn : a.length ≤ 9223372036854775807) (h : Tb a) : ∃ t, merkle_New a = some (some t, 0) ∧ Inv t ∧ ∀ k : Nat, k < 4096 → t.cells k = cellO (look a (k : Int)) := by
  obtain ⟨r, e, he⟩ := table_Check_eq a hn
  unfold merkle_New
  rw [e]
  simp only [Option.bind_some]
  rw [if_pos (he.2 h)]
  obtain ⟨t0, e0, hi0, hc0⟩ := empty_eq
  rw [e0]
  simp only [Option.bind_some]
  obtain ⟨t, ⟨h1, h2⟩, h3⟩ := for_go (step := merkle_New.step a) (n := a.length) (fun i x => merkle_New.S.l1 (i : Int) x) (fun i x => Inv x ∧ ∀ k : Nat, k < 4096 → x.cells k = cellO (look (a.take i) (k : Int))) (by
    rintro i x hi ⟨h1, h2⟩
    have hx : a.getD (i : Int).toNat api_Pair.z ∈ a := by
      rw [List.getD_eq_getElem?_getD, List.getElem?_eq_getElem (by omega)]
      exact List.getElem_mem _
    have ht := take_atI (l := a) (z := api_Pair.z) hi
    have hok := h.ok _ hx
    have hne : ∀ y ∈ a.take i, y.Key ≠ (a.getD (i : Int).toNat api_Pair.z).Key := by
      intro y hy
      have : Tb (a.take (i + 1)) := by
        have := h; rw [← List.take_append_drop (i + 1) a] at this; exact tb_take this
      rw [ht] at this
      have := (tb_snoc.1 this).2.2 y hy
      omega
    simp only [merkle_New.step, merkle_New.l1]
    rw [if_pos (by omega), if_pos (by omega)]
    generalize a.getD (i : Int).toNat api_Pair.z = X at ht hok hne ⊢
    obtain ⟨n, hn'⟩ := Int.eq_ofNat_of_zero_le hok.1
    have hlt : n < 4096 := by have := hok.2.1; omega
    rw [hn', put_eq x h1 n _ hlt, wr1 hi hn]
    refine ⟨putT x n ⟨X.Val, true⟩, rfl, put_inv h1 _ hlt, fun k hk => ?_⟩
    rw [put_cells, ht, look_snoc hne, hn']
    by_cases e : k = n
    · subst e; rw [upd_at, if_pos rfl]; rfl
    · rw [upd_ne _ _ e, if_neg (by omega)]; exact h2 k hk) 0 t0 (by omega) ⟨hi0, fun k hk => by rw [hc0 k hk]; rfl⟩
  rw [show (merkle_New.S.l1 0 t0) = merkle_New.S.l1 ((0 : Nat) : Int) t0 from rfl, h3, loop_eq]
  simp only [merkle_New.step, merkle_New.l1]
  rw [if_neg (by omega)]
  rw [take_all (Nat.le_refl _)] at h2
  exact ⟨t, rfl, h1, h2⟩
end Go.SyP
