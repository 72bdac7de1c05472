/- Proofs: what the printed loops of Prove and Verify come to. -/
import Derived.Test.YtckflmadcnfpeaaP20V
set_option linter.unusedVariables false
set_option linter.unusedSimpArgs false
namespace Go.SyP
open Go Go.Sy Go.Crc

theorem place0 (k : Nat) (hk : k < 4096) : merkle_place 0 (k : Int) = some ((k % 16 : Nat) : Int) := by
  unfold merkle_place
  rw [loop_eq]
  simp only [merkle_place.step, merkle_place.l1]
  rw [if_neg (by omega), Int.tmod_eq_emod_of_nonneg (by omega)]
  simp only [stk]
  congr 1
theorem tdiv16 (k : Nat) (hk : k < 4096) : IntKind.wrap .i64 (Int.tdiv (k : Int) 16) = ((k / 16 : Nat) : Int) := by rw [Int.tdiv_eq_ediv_of_nonneg (by omega), wr (by omega)]; omega
theorem place1 (k : Nat) (hk : k < 4096) : merkle_place 1 (k : Int) = some ((k / 16 % 16 : Nat) : Int) := by
  unfold merkle_place
  rw [loop_eq]
  simp only [merkle_place.step, merkle_place.l1]
  rw [if_pos (by omega), tdiv16 k hk]
  simp only [stk]
  rw [loop_eq, wr (by omega)]
  simp only [merkle_place.step, merkle_place.l1]
  rw [if_neg (by omega), Int.tmod_eq_emod_of_nonneg (by omega)]
  simp only [stk]
  congr 1
theorem place2 (k : Nat) (hk : k < 4096) : merkle_place 2 (k : Int) = some ((k / 256 % 16 : Nat) : Int) := by
  unfold merkle_place
  rw [loop_eq]
  simp only [merkle_place.step, merkle_place.l1]
  rw [if_pos (by omega), tdiv16 k hk]
  simp only [stk]
  rw [loop_eq, wr (by omega)]
  simp only [merkle_place.step, merkle_place.l1]
  rw [if_pos (by omega), tdiv16 _ (by omega)]
  simp only [stk]
  rw [loop_eq, wr (by omega)]
  simp only [merkle_place.step, merkle_place.l1]
  rw [if_neg (by omega), Int.tmod_eq_emod_of_nonneg (by omega)]
  simp only [stk]
  congr 1
  omega
/-- Sixteen numbers but one. -/
def sibs (x : Nat → Int) (a p : Nat) : List Int := winL x a p ++ winL x (a + p + 1) (15 - p)
theorem sibs_length (x : Nat → Int) (a p : Nat) (hp : p < 16) : (sibs x a p).length = 15 := by
  unfold sibs
  rw [List.length_append, winL_length, winL_length]
  omega
theorem sibs_ins (x : Nat → Int) (a p : Nat) (hp : p < 16) (n : Int) : (sibs x a p).take p ++ n :: (sibs x a p).drop p = winL x a p ++ n :: winL x (a + p + 1) (15 - p) := by
  unfold sibs
  rw [List.take_append_of_le_length (by rw [winL_length]; exact Nat.le_refl _), List.take_of_length_le (by rw [winL_length]; exact Nat.le_refl _), List.drop_append_of_le_length (by rw [winL_length]; exact Nat.le_refl _), List.drop_of_length_le (by rw [winL_length]; exact Nat.le_refl _), List.nil_append]
theorem sibs_full (x : Nat → Int) (a p : Nat) (hp : p < 16) : (sibs x a p).take p ++ x (a + p) :: (sibs x a p).drop p = winL x a 16 := by
  rw [sibs_ins x a p hp, win_split x a 16 p hp, List.append_assoc, show 16 - p - 1 = 15 - p by omega]
  rfl
theorem win_succ (x : Nat → Int) (a n : Nat) : winL x a (n + 1) = winL x a n ++ [x (a + n)] := by
  unfold winL
  rw [List.range_succ, List.map_append]
  rfl
/-- So far: the first q of sixteen but one. -/
def sibsTo (x : Nat → Int) (a p q : Nat) : List Int := if q ≤ p then winL x a q else winL x a p ++ winL x (a + p + 1) (q - p - 1)
theorem sibsTo_16 (x : Nat → Int) (a p : Nat) (hp : p < 16) : sibsTo x a p 16 = sibs x a p := by
  unfold sibsTo sibs
  rw [if_neg (by omega), show 16 - p - 1 = 15 - p by omega]
theorem sibsTo_0 (x : Nat → Int) (a p : Nat) : sibsTo x a p 0 = [] := by
  unfold sibsTo
  rw [if_pos (by omega)]
  rfl
theorem sibsTo_at (x : Nat → Int) (a p : Nat) : sibsTo x a p (p + 1) = sibsTo x a p p := by
  unfold sibsTo
  rw [if_neg (by omega), if_pos (by omega), show p + 1 - p - 1 = 0 by omega]
  simp [winL]
theorem sibsTo_ne (x : Nat → Int) (a p q : Nat) (h : q ≠ p) : sibsTo x a p (q + 1) = sibsTo x a p q ++ [x (a + q)] := by
  unfold sibsTo
  by_cases h1 : q < p
  · rw [if_pos (by omega), if_pos (by omega), win_succ]
  · rw [if_neg (by omega), if_neg (by omega), show q + 1 - p - 1 = (q - p - 1) + 1 by omega, win_succ, ← List.append_assoc, show a + p + 1 + (q - p - 1) = a + q by omega]
theorem sibsTo_len (x : Nat → Int) (a p q : Nat) : (sibsTo x a p q).length ≤ q := by
  unfold sibsTo
  split
  · rw [winL_length]; omega
  · rw [List.length_append, winL_length, winL_length]; omega
/-- The proof of a key. -/
def prf (t : merkle_Tree) (k : Nat) : List Int := sibs t.leaf (16 * (k / 16)) (k % 16) ++ (sibs t.low (16 * (k / 256)) (k / 16 % 16) ++ sibs t.mid 0 (k / 256 % 16))
theorem Prove_eq (t : merkle_Tree) (k : Nat) (hk : k < 4096) : merkle_Tree_Prove t (k : Int) = some (prf t k, 0) := by
  unfold merkle_Tree_Prove
  have e1 := tdiv16 k hk
  have e2 : IntKind.wrap .i64 (Int.tdiv ((k / 16 : Nat) : Int) 16) = ((k / 256 : Nat) : Int) := by rw [tdiv16 _ (by omega)]; omega
  have e3 : IntKind.wrap .i64 (((k / 16 : Nat) : Int) * 16) = ((16 * (k / 16) : Nat) : Int) := by rw [wr (by omega)]; omega
  have e4 : IntKind.wrap .i64 (IntKind.wrap .i64 (((k / 16 : Nat) : Int) + 1) * 16) = ((16 * (k / 16) + 16 : Nat) : Int) := by rw [wr (n := ((k / 16 : Nat) : Int) + 1) (by omega), wr (by omega)]; omega
  have e5 : IntKind.wrap .i64 (((k / 256 : Nat) : Int) * 16) = ((16 * (k / 256) : Nat) : Int) := by rw [wr (by omega)]; omega
  have e6 : IntKind.wrap .i64 (IntKind.wrap .i64 (((k / 256 : Nat) : Int) + 1) * 16) = ((16 * (k / 256) + 16 : Nat) : Int) := by rw [wr (n := ((k / 256 : Nat) : Int) + 1) (by omega), wr (by omega)]; omega
  rw [isKey_eq, decide_eq_true (show 0 ≤ (k : Int) ∧ (k : Int) < 4096 by omega), if_pos rfl]
  simp only [e1, e3, e4]
  rw [if_pos (by omega)]
  have hd1 : 16 * (k / 16) + 16 - 16 * (k / 16) = 16 := by omega
  have hd2 : 16 * (k / 256) + 16 - 16 * (k / 256) = 16 := by omega
  obtain ⟨x, hx, h1⟩ := for_go (step := merkle_Tree_Prove.step t (k : Int)) (n := 16) (fun i x => merkle_Tree_Prove.S.l1 (i : Int) x) (fun i x => x = sibsTo t.leaf (16 * (k / 16)) (k % 16) i) (by
    rintro i x hi hx
    have hl := sibsTo_len t.leaf (16 * (k / 16)) (k % 16) i
    rw [← hx] at hl
    refine ⟨_, ?_, rfl⟩
    simp only [merkle_Tree_Prove.step, merkle_Tree_Prove.l1, merkle_Tree_Prove.j1, e1, e3, e4, bnd, Int.toNat_natCast, hd1, place0 k hk, wr1 (n := 16) hi (by omega), Option.bind_some]
    rw [if_pos (by omega), if_pos (by omega), if_pos (by omega)]
    by_cases h : i = k % 16
    · rw [if_pos (by omega), hx, h, sibsTo_at]
    · rw [if_neg (by omega), if_pos (by omega), sibsTo_ne _ _ _ _ h, hx]) 0 [] (by omega) (sibsTo_0 _ _ _).symm
  rw [show (merkle_Tree_Prove.S.l1 0 ([] : List Int)) = merkle_Tree_Prove.S.l1 ((0 : Nat) : Int) [] from rfl, h1, loop_eq]
  rw [sibsTo_16 _ _ _ (by omega)] at hx
  simp only [merkle_Tree_Prove.step, merkle_Tree_Prove.l1, e1, e2, e3, e4, e5, e6, Int.toNat_natCast, hd1]
  rw [if_neg (by omega), if_pos (by omega)]
  simp only [stk]
  obtain ⟨y, hy, h2⟩ := for_go (step := merkle_Tree_Prove.step t (k : Int)) (n := 16) (fun i x => merkle_Tree_Prove.S.l2 (i : Int) x) (fun i y => y = x ++ sibsTo t.low (16 * (k / 256)) (k / 16 % 16) i) (by
    rintro i y hi hy
    have hl := sibsTo_len t.low (16 * (k / 256)) (k / 16 % 16) i
    have hl2 := sibs_length t.leaf (16 * (k / 16)) (k % 16) (by omega)
    have hl3 : y.length ≤ 40 := by rw [hy, List.length_append, hx]; omega
    refine ⟨_, ?_, rfl⟩
    simp only [merkle_Tree_Prove.step, merkle_Tree_Prove.l2, merkle_Tree_Prove.j2, e1, e2, e5, e6, bnd, Int.toNat_natCast, hd2, place1 k hk, wr1 (n := 16) hi (by omega), Option.bind_some]
    rw [if_pos (by omega), if_pos (by omega), if_pos (by omega)]
    by_cases h : i = k / 16 % 16
    · rw [if_pos (by omega), hy, h, sibsTo_at]
    · rw [if_neg (by omega), if_pos (by omega), sibsTo_ne _ _ _ _ h, hy, List.append_assoc]) 0 x (by omega) (by rw [sibsTo_0, List.append_nil])
  rw [show (merkle_Tree_Prove.S.l2 0 x) = merkle_Tree_Prove.S.l2 ((0 : Nat) : Int) x from rfl, h2, loop_eq]
  rw [sibsTo_16 _ _ _ (by omega)] at hy
  simp only [merkle_Tree_Prove.step, merkle_Tree_Prove.l2, e1, e2, e5, e6, Int.toNat_natCast, hd2]
  rw [if_neg (by omega)]
  simp only [stk]
  obtain ⟨z, hz, h3⟩ := for_go (step := merkle_Tree_Prove.step t (k : Int)) (n := 16) (fun i x => merkle_Tree_Prove.S.l3 (i : Int) x) (fun i z => z = y ++ sibsTo t.mid 0 (k / 256 % 16) i) (by
    rintro i z hi hz
    have hl := sibsTo_len t.mid 0 (k / 256 % 16) i
    have hl2 := sibs_length t.leaf (16 * (k / 16)) (k % 16) (by omega)
    have hl4 := sibs_length t.low (16 * (k / 256)) (k / 16 % 16) (by omega)
    have hl3 : z.length ≤ 60 := by rw [hz, List.length_append, hy, List.length_append, hx]; omega
    refine ⟨_, ?_, rfl⟩
    simp only [merkle_Tree_Prove.step, merkle_Tree_Prove.l3, merkle_Tree_Prove.j3, bnd, Int.toNat_natCast, place2 k hk, wr1 (n := 16) hi (by omega), Option.bind_some]
    rw [if_pos (by omega), if_pos (by omega)]
    by_cases h : i = k / 256 % 16
    · rw [if_pos (by omega), hz, h, sibsTo_at]
    · rw [if_neg (by omega), if_pos (by omega), sibsTo_ne _ _ _ _ h, hz, List.append_assoc, Nat.zero_add]) 0 y (by omega) (by rw [sibsTo_0, List.append_nil])
  rw [show (merkle_Tree_Prove.S.l3 0 y) = merkle_Tree_Prove.S.l3 ((0 : Nat) : Int) y from rfl, h3, loop_eq]
  rw [sibsTo_16 _ _ _ (by omega)] at hz
  simp only [merkle_Tree_Prove.step, merkle_Tree_Prove.l3]
  rw [if_neg (by omega), hz, hy, hx, List.append_assoc]
  rfl
theorem Prove_out (t : merkle_Tree) {k : Int} (h : ¬ (0 ≤ k ∧ k < 4096)) : merkle_Tree_Prove t k = some ([], 1) := by
  unfold merkle_Tree_Prove
  rw [isKey_eq, decide_eq_false h, if_neg (by decide)]

/-! ### Verify -/
/-- A number put among fifteen others. -/
def ins (l : List Int) (p : Nat) (n : Int) : List Int := l.take p ++ n :: l.drop p
/-- The root that a proof makes. -/
def mk (k : Nat) (n : Int) (l : List Int) : Int :=
  ov (ins ((l.drop 30).take 15) (k / 256 % 16) (ov (ins ((l.drop 15).take 15) (k / 16 % 16) (ov (ins ((l.drop 0).take 15) (k % 16) n)))))
theorem ins_rng {l : List Int} (h : ∀ x ∈ l, R32 x) {p : Nat} {n : Int} (hn : R32 n) : ∀ x ∈ ins l p n, R32 x := by
  intro x hx
  unfold ins at hx
  rcases List.mem_append.1 hx with hx | hx
  · exact h x (List.mem_of_mem_take hx)
  · rcases List.mem_cons.1 hx with rfl | hx
    · exact hn
    · exact h x (List.mem_of_mem_drop hx)
theorem part_rng {l : List Int} (h : ∀ x ∈ l, R32 x) (a b : Nat) : ∀ x ∈ (l.drop a).take b, R32 x := fun x hx => h x (List.mem_of_mem_drop (List.mem_of_mem_take hx))
theorem ins_length (l : List Int) (p : Nat) (n : Int) : (ins l p n).length = l.length + 1 := by
  unfold ins
  rw [List.length_append, List.length_cons, List.length_take, List.length_drop]
  omega
theorem Verify_in (r : Int) (k : Nat) (c : api_Cell) (l : List Int) (hk : k < 4096) (hl : l.length = 45) (hr : ∀ x ∈ l, R32 x) : merkle_Verify r (k : Int) c l = some (mk k (num c) l == r) := by
  unfold merkle_Verify
  rw [if_pos (by omega), isKey_eq, decide_eq_true (show 0 ≤ (k : Int) ∧ (k : Int) < 4096 by omega)]
  unfold merkle_Verify.j1
  rw [Bool.not_true, if_neg (by decide), Number_eq]
  simp only [Option.bind_some, Nat.sub_zero, show 30 - 15 = 15 from rfl, show 45 - 30 = 15 from rfl]
  have h0 : ((l.drop 0).take 15).length = 15 := by rw [List.length_take, List.length_drop]; omega
  have h1 : ((l.drop 15).take 15).length = 15 := by rw [List.length_take, List.length_drop]; omega
  have h2 : ((l.drop 30).take 15).length = 15 := by rw [List.length_take, List.length_drop]; omega
  rw [if_pos (by omega), if_pos (by omega), place0 k hk]
  simp only [Option.bind_some, Int.toNat_natCast]
  rw [if_pos (by omega)]
  have g0 := over_eq (ins ((l.drop 0).take 15) (k % 16) (num c)) (ins_rng (part_rng hr _ _) (num_rng c)) (by rw [ins_length]; omega)
  unfold ins at g0
  rw [g0]
  simp only [Option.bind_some]
  rw [if_pos (by omega), if_pos (by omega), place1 k hk]
  simp only [Option.bind_some, Int.toNat_natCast]
  rw [if_pos (by omega)]
  have g1 := over_eq (ins ((l.drop 15).take 15) (k / 16 % 16) (ov (ins ((l.drop 0).take 15) (k % 16) (num c)))) (ins_rng (part_rng hr _ _) (ov_rng _)) (by rw [ins_length]; omega)
  unfold ins at g1
  rw [g1]
  simp only [Option.bind_some]
  rw [if_pos (by omega), if_pos (by omega), place2 k hk]
  simp only [Option.bind_some, Int.toNat_natCast]
  rw [if_pos (by omega)]
  have g2 := over_eq (ins ((l.drop 30).take 15) (k / 256 % 16) (ov (ins ((l.drop 15).take 15) (k / 16 % 16) (ov (ins ((l.drop 0).take 15) (k % 16) (num c)))))) (ins_rng (part_rng hr _ _) (ov_rng _)) (by rw [ins_length]; omega)
  unfold ins at g2
  rw [g2]
  rfl
theorem Verify_out (r : Int) (k : Int) (c : api_Cell) (l : List Int) (h : ¬ (l.length = 45 ∧ 0 ≤ k ∧ k < 4096)) : merkle_Verify r k c l = some false := by
  unfold merkle_Verify
  by_cases h1 : (l.length : Int) = 45
  · rw [if_pos h1, isKey_eq, decide_eq_false (fun h2 => h ⟨by omega, h2⟩)]
    rfl
  · rw [if_neg h1]
    rfl
theorem prf_length (t : merkle_Tree) (k : Nat) : (prf t k).length = 45 := by
  unfold prf
  rw [List.length_append, List.length_append, sibs_length _ _ _ (by omega), sibs_length _ _ _ (by omega), sibs_length _ _ _ (by omega)]
theorem prf_0 (t : merkle_Tree) (k : Nat) : ((prf t k).drop 0).take 15 = sibs t.leaf (16 * (k / 16)) (k % 16) := by
  unfold prf
  have h := sibs_length t.leaf (16 * (k / 16)) (k % 16) (by omega)
  rw [List.drop_zero, List.take_append_of_le_length (by omega), List.take_of_length_le (by omega)]
theorem prf_1 (t : merkle_Tree) (k : Nat) : ((prf t k).drop 15).take 15 = sibs t.low (16 * (k / 256)) (k / 16 % 16) := by
  unfold prf
  have h := sibs_length t.leaf (16 * (k / 16)) (k % 16) (by omega)
  have h2 := sibs_length t.low (16 * (k / 256)) (k / 16 % 16) (by omega)
  rw [List.drop_append_of_le_length (by omega), List.drop_of_length_le (by omega), List.nil_append, List.take_append_of_le_length (by omega), List.take_of_length_le (by omega)]
theorem prf_2 (t : merkle_Tree) (k : Nat) : ((prf t k).drop 30).take 15 = sibs t.mid 0 (k / 256 % 16) := by
  unfold prf
  have h := sibs_length t.leaf (16 * (k / 16)) (k % 16) (by omega)
  have h2 := sibs_length t.low (16 * (k / 256)) (k / 16 % 16) (by omega)
  have h3 := sibs_length t.mid 0 (k / 256 % 16) (by omega)
  rw [← List.append_assoc, List.drop_append_of_le_length (by rw [List.length_append]; omega), List.drop_of_length_le (by rw [List.length_append]; omega), List.nil_append, List.take_of_length_le (by omega)]
theorem sibs_rng {x : Nat → Int} {a p : Nat} (h : ∀ j, j < 16 → R32 (x (a + j))) (hp : p < 16) : ∀ y ∈ sibs x a p, R32 y := by
  intro y hy
  unfold sibs at hy
  rcases List.mem_append.1 hy with hy | hy
  · obtain ⟨j, hj, rfl⟩ := win_mem hy
    exact h j (by omega)
  · obtain ⟨j, hj, rfl⟩ := win_mem hy
    rw [show a + p + 1 + j = a + (p + 1 + j) by omega]
    exact h _ (by omega)
theorem prf_rng {t : merkle_Tree} (ht : Inv t) {k : Nat} (hk : k < 4096) : ∀ x ∈ prf t k, R32 x := by
  intro x hx
  unfold prf at hx
  rcases List.mem_append.1 hx with hx | hx
  · exact sibs_rng (fun j hj => ht.rng1 _ (by omega)) (by omega) x hx
  · rcases List.mem_append.1 hx with hx | hx
    · exact sibs_rng (fun j hj => ht.rng2 _ (by omega)) (by omega) x hx
    · exact sibs_rng (fun j hj => ht.rng3 _ (by omega)) (by omega) x hx
theorem mk_prf {t : merkle_Tree} (ht : Inv t) {k : Nat} (hk : k < 4096) : mk k (num (t.cells k)) (prf t k) = t.root := by
  unfold mk ins
  rw [prf_0, prf_1, prf_2, ← ht.leaf k hk]
  have e0 := sibs_full t.leaf (16 * (k / 16)) (k % 16) (by omega)
  rw [show 16 * (k / 16) + k % 16 = k by omega] at e0
  rw [e0, ← ht.low (k / 16) (by omega)]
  have e1 := sibs_full t.low (16 * (k / 256)) (k / 16 % 16) (by omega)
  rw [show 16 * (k / 256) + k / 16 % 16 = k / 16 by omega] at e1
  rw [e1, ← ht.mid (k / 256) (by omega)]
  have e2 := sibs_full t.mid 0 (k / 256 % 16) (by omega)
  rw [show 0 + k / 256 % 16 = k / 256 by omega] at e2
  rw [e2, ht.root]
theorem ins_inj {l : List Int} {p : Nat} {x y : Int} (hx : R32 x) (hy : R32 y) (h : ov (ins l p x) = ov (ins l p y)) : x = y := by
  refine ov_apart (p := l.take p) (s := l.drop p) hx hy ?_
  simpa [ins, List.append_assoc] using h
theorem mk_inj {k : Nat} {n m : Int} {l : List Int} (hn : R32 n) (hm : R32 m) (h : mk k n l = mk k m l) : n = m :=
  ins_inj hn hm (ins_inj (ov_rng _) (ov_rng _) (ins_inj (ov_rng _) (ov_rng _) h))
end Go.SyP
