/- Sums: what the printed loops over bytes come to. -/
import Derived.Test.YtckflmadcnfpeaaP20C
import Derived.Test.YtckflmadcnfpeaaP20K
set_option linter.unusedVariables false
set_option linter.unusedSimpArgs false
namespace Go.SyP
open Go Go.Sy Go.Crc

abbrev U (b : BitVec 32) : Int := (b.toNat : Int)
theorem U_rng (b : BitVec 32) : 0 ≤ U b ∧ U b < 4294967296 := ⟨Int.natCast_nonneg _, by have := b.isLt; show (b.toNat : Int) < _; omega⟩
theorem U_inj {a b : BitVec 32} (h : U a = U b) : a = b := BitVec.eq_of_toNat_eq (by have h2 : (a.toNat : Int) = (b.toNat : Int) := h; omega)
theorem ofInt_U (b : BitVec 32) : BitVec.ofInt 32 (U b) = b := by
  show BitVec.ofInt 32 ((b.toNat : Nat) : Int) = b
  rw [BitVec.ofInt_natCast, BitVec.ofNat_toNat, BitVec.setWidth_eq]
theorem wr32 {n : Int} (h : 0 ≤ n ∧ n < 4294967296) : IntKind.wrap .u32 n = n := by
  simp [IntKind.wrap, IntKind.bits, IntKind.signed]; omega
theorem wr8 {n : Int} (h : 0 ≤ n ∧ n ≤ 255) : IntKind.wrap .u8 n = n := by
  simp [IntKind.wrap, IntKind.bits, IntKind.signed]; omega
theorem wr64 {n : Int} (h : 0 ≤ n ∧ n < 18446744073709551616) : IntKind.wrap .u64 n = n := by
  simp [IntKind.wrap, IntKind.bits, IntKind.signed]; omega
theorem xorU (a b : BitVec 32) : bXor .u32 (U a) (U b) = U (a ^^^ b) := by
  show IntKind.wrap .u32 (((BitVec.ofInt 32 (U a) ^^^ BitVec.ofInt 32 (U b)).toNat : Nat) : Int) = _
  rw [ofInt_U, ofInt_U]
  exact wr32 (U_rng _)
theorem andU (a b : BitVec 32) : bAnd .u32 (U a) (U b) = U (a &&& b) := by
  show IntKind.wrap .u32 (((BitVec.ofInt 32 (U a) &&& BitVec.ofInt 32 (U b)).toNat : Nat) : Int) = _
  rw [ofInt_U, ofInt_U]
  exact wr32 (U_rng _)
theorem halfU (c : BitVec 32) : Int.fdiv (U c) 2 = U (c >>> 1) := by
  rw [Int.fdiv_eq_ediv_of_nonneg _ (by omega)]
  show ((c.toNat : Nat) : Int) / 2 = (((c >>> 1).toNat : Nat) : Int)
  rw [BitVec.toNat_ushiftRight, Nat.shiftRight_eq_div_pow]
  omega
theorem lsbU (c : BitVec 32) : bAnd .u32 (U c) 1 = bif c.getLsbD 0 then 1 else 0 := by
  have := andU c 1#32
  rw [show U 1#32 = 1 from rfl] at this
  rw [this]
  have e : c &&& 1#32 = bif c.getLsbD 0 then 1#32 else 0#32 := by
    apply BitVec.eq_of_getLsbD_eq
    intro i hi
    rw [BitVec.getLsbD_and]
    cases i with
    | zero => cases c.getLsbD 0 <;> rfl
    | succ i =>
      have : (1#32).getLsbD (i + 1) = false := by simp [BitVec.getLsbD_one]
      rw [this, Bool.and_false]
      cases c.getLsbD 0
      · simp
      · simp [BitVec.getLsbD_one]
  rw [e]
  cases c.getLsbD 0 <;> rfl
theorem stU (c : BitVec 32) : bXor .u32 (Int.fdiv (U c) 2) (bAnd .u32 3988292384 (IntKind.wrap .u32 (0 - (bAnd .u32 (U c) 1)))) = U (st c) := by
  rw [lsbU, halfU]
  have : bAnd .u32 3988292384 (IntKind.wrap .u32 (0 - (bif c.getLsbD 0 then (1 : Int) else 0))) = U (bif c.getLsbD 0 then poly else 0#32) := by
    cases c.getLsbD 0
    · decide
    · decide
  rw [this, xorU]
  rfl
theorem modU (c : BitVec 32) : Int.tmod (U c) 2 = bif c.getLsbD 0 then 1 else 0 := by
  rw [Int.tmod_eq_emod_of_nonneg (U_rng c).1]
  have : c.getLsbD 0 = decide (c.toNat % 2 = 1) := by
    rw [BitVec.getLsbD, Nat.testBit_zero]
  rw [this]
  show ((c.toNat : Nat) : Int) % 2 = _
  by_cases h : c.toNat % 2 = 1
  · simp [h]; omega
  · simp [h]; omega
theorem tdivU (c : BitVec 32) : IntKind.wrap .u32 (Int.tdiv (U c) 2) = U (c >>> 1) := by
  rw [Int.tdiv_eq_ediv_of_nonneg (U_rng c).1, ← Int.fdiv_eq_ediv_of_nonneg _ (by omega), halfU]
  exact wr32 (U_rng _)

/-- The bytes of a text. -/
def bys (s : ByteArray) : List Nat := s.data.toList.map fun b => b.toNat
theorem bys_length (s : ByteArray) : (bys s).length = s.size := by
  unfold bys
  rw [List.length_map]
  rfl
theorem bys_lt (s : ByteArray) : ∀ x ∈ bys s, x < 256 := by
  intro x hx
  obtain ⟨b, _, rfl⟩ := List.mem_map.1 hx
  exact b.toNat_lt
theorem byteAt_bys {s : ByteArray} {i : Nat} (h : i < s.size) : byteAt s (i : Int) = (((bys s).getD i 0 : Nat) : Int) := by
  unfold byteAt
  rw [dif_pos (by simpa using h)]
  have h2 : i < s.data.toList.length := h
  unfold bys
  rw [List.getD_eq_getElem?_getD, List.getElem?_map, List.getElem?_eq_getElem h2]
  rfl
theorem bys_strB (xs : List Int) : bys (strB xs) = xs.map fun n => n.toNat % 256 := by
  unfold bys strB
  simp only [List.map_map]
  apply List.map_congr_left
  intro x _
  simp [Function.comp, UInt8.toNat_ofNat']
theorem bys_drop {s : ByteArray} {i : Nat} (h : i < s.size) : (bys s).drop i = (bys s).getD i 0 :: (bys s).drop (i + 1) := by
  rw [List.drop_eq_getElem_cons (by rw [bys_length]; exact h)]
  simp [bys_length, h]
theorem by_U {x : Nat} (h : x < 256) : ((x : Nat) : Int) = U (By x) := by
  show _ = (((BitVec.ofNat 32 (x % 256)).toNat : Nat) : Int)
  rw [BitVec.toNat_ofNat]
  omega

/-! ### cksum.Sum -/
theorem cks_in (s : ByteArray) (i : Int) : ∀ (j : Nat) (c : BitVec 32), j ≤ 8 → goLoop (cksum_Sum.step s) (.l2 (U c) i ((8 - j : Nat) : Int)) = goLoop (cksum_Sum.step s) (.l1 (U (stn j c)) (IntKind.wrap .i64 (i + 1)))
  | 0, c, _ => by
    rw [loop_eq]
    simp only [cksum_Sum.step, cksum_Sum.l2]
    rw [if_neg (by omega)]
    rfl
  | j + 1, c, hj => by
    rw [loop_eq]
    simp only [cksum_Sum.step, cksum_Sum.l2]
    rw [if_pos (by omega), stU]
    simp only [bnd, stk]
    rw [show IntKind.wrap .i64 (((8 - (j + 1) : Nat) : Int) + 1) = ((8 - j : Nat) : Int) by rw [wr (by omega)]; omega]
    exact cks_in s i j (st c) (by omega)
theorem cks_out (s : ByteArray) (hs : s.size ≤ 9223372036854775807) : ∀ (m i : Nat) (c : BitVec 32), i + m = s.size → goLoop (cksum_Sum.step s) (.l1 (U c) (i : Int)) = some (bXor .u32 4294967295 (U (run c ((bys s).drop i))))
  | 0, i, c, h => by
    rw [loop_eq]
    simp only [cksum_Sum.step, cksum_Sum.l1]
    rw [if_neg (by omega), List.drop_eq_nil_of_le (by rw [bys_length]; omega)]
    rfl
  | m + 1, i, c, h => by
    rw [loop_eq]
    simp only [cksum_Sum.step, cksum_Sum.l1]
    rw [if_pos (by omega), if_pos (by omega), byteAt_bys (by omega)]
    have hx : (bys s).getD i 0 < 256 := bys_lt s _ (by
      rw [List.getD_eq_getElem?_getD, List.getElem?_eq_getElem (by rw [bys_length]; omega)]
      exact List.getElem_mem _)
    rw [bys_drop (by omega)]
    generalize (bys s).getD i 0 = x at hx ⊢
    rw [wr32 (by omega), by_U hx, xorU]
    simp only [stk]
    rw [show (0 : Int) = ((8 - 8 : Nat) : Int) from rfl, cks_in s _ 8 _ (by omega), show IntKind.wrap .i64 ((i : Int) + 1) = ((i + 1 : Nat) : Int) by rw [wr (by omega)]; omega, cks_out s hs m (i + 1) _ (by omega)]
    rfl
theorem notU (c : BitVec 32) : bXor .u32 4294967295 (U c) = U (~~~ c) := by
  have := xorU (BitVec.allOnes 32) c
  rw [show U (BitVec.allOnes 32) = 4294967295 from by decide] at this
  rw [this, BitVec.allOnes_xor]
theorem cks_eq (s : ByteArray) (hs : s.size ≤ 9223372036854775807) : cksum_Sum s = some (U (crc (bys s))) := by
  unfold cksum_Sum
  have := cks_out s hs s.size 0 (~~~ 0#32) (by omega)
  rw [show U (~~~ 0#32) = 4294967295 from by decide, show ((0 : Nat) : Int) = 0 from rfl, List.drop_zero, notU] at this
  exact this

/-! ### The reference's -/
theorem st_ref (r y : BitVec 32) : st (r ^^^ y) = ((r >>> 1) ^^^ (bif r.getLsbD 0 == y.getLsbD 0 then 0#32 else poly)) ^^^ (y >>> 1) := by
  unfold st
  have : (r ^^^ y) >>> 1 = (r >>> 1) ^^^ (y >>> 1) := by
    apply BitVec.eq_of_getLsbD_eq
    intro i hi
    simp [BitVec.getLsbD_ushiftRight, BitVec.getLsbD_xor]
  rw [this, BitVec.getLsbD_xor, BitVec.xor_assoc, BitVec.xor_assoc, BitVec.xor_comm (y >>> 1)]
  cases r.getLsbD 0 <;> cases y.getLsbD 0 <;> rfl
theorem bit_by (x k : Nat) (hx : x < 256) (hk : k ≤ 8) : Int.tmod (IntKind.wrap .u32 (Int.fdiv (x : Int) (2 ^ (min (IntKind.wrap .u64 (k : Int)).toNat 8)))) 2 = bif (By x >>> k).getLsbD 0 then 1 else 0 := by
  rw [wr64 (by omega)]
  rw [show min ((k : Int)).toNat 8 = k by omega, Int.fdiv_eq_ediv_of_nonneg _ (by exact Int.le_of_lt (Int.pow_pos (by omega)))]
  have e : ((x : Nat) : Int) / (2 : Int) ^ k = ((x / 2 ^ k : Nat) : Int) := by rw [Int.natCast_ediv, Int.natCast_pow]; rfl
  rw [e]
  have hq : x / 2 ^ k ≤ x := Nat.div_le_self _ _
  rw [BitVec.getLsbD_ushiftRight, Nat.add_zero, BitVec.getLsbD_ofNat, Nat.mod_eq_of_lt hx, Nat.testBit_eq_decide_div_mod_eq]
  generalize x / 2 ^ k = q at hq ⊢
  rw [wr32 (by omega), Int.tmod_eq_emod_of_nonneg (by omega)]
  by_cases h : q % 2 = 1
  · simp [h, show k < 32 by omega]; omega
  · simp [h, show k < 32 by omega]; omega
theorem ref_in (s : ByteArray) (i : Nat) (hi : i < s.size) : ∀ (j k : Nat) (r : BitVec 32), k + j = 8 →
    goLoop (spliceref02_Sum.step s) (.l2 (U r) i (k : Int)) = goLoop (spliceref02_Sum.step s) (.l1 (U (stn j (r ^^^ (By ((bys s).getD i 0) >>> k)))) (IntKind.wrap .i64 ((i : Int) + 1)))
  | 0, k, r, h => by
    rw [loop_eq]
    simp only [spliceref02_Sum.step, spliceref02_Sum.l2]
    rw [if_neg (by omega)]
    have : By ((bys s).getD i 0) >>> k = 0#32 := by
      apply BitVec.eq_of_getLsbD_eq
      intro q hq
      rw [BitVec.getLsbD_ushiftRight, by_high _ (by omega)]
      simp
    rw [this]
    simp only [stn, BitVec.xor_zero, stk]
  | j + 1, k, r, h => by
    have hx : (bys s).getD i 0 < 256 := bys_lt s _ (by
      rw [List.getD_eq_getElem?_getD, List.getElem?_eq_getElem (by rw [bys_length]; omega)]
      exact List.getElem_mem _)
    rw [loop_eq]
    simp only [spliceref02_Sum.step, spliceref02_Sum.l2]
    rw [if_pos (by omega), if_pos (by omega), if_pos (by rw [wr64 (by omega)]; omega), byteAt_bys hi, bit_by _ _ hx (by omega), modU]
    have ih := ref_in s i hi j (k + 1)
    generalize (bys s).getD i 0 = x at hx ih ⊢
    have e : stn (j + 1) (r ^^^ (By x >>> k)) = stn j (((r >>> 1) ^^^ (bif r.getLsbD 0 == (By x >>> k).getLsbD 0 then 0#32 else poly)) ^^^ (By x >>> (k + 1))) := by
      show stn j (st _) = _
      rw [st_ref, ← BitVec.shiftRight_add]
    rw [e]
    have hk : IntKind.wrap .i64 ((k : Int) + 1) = ((k + 1 : Nat) : Int) := by rw [wr (by omega)]; omega
    simp only [bnd]
    cases r.getLsbD 0 <;> cases (By x >>> k).getLsbD 0 <;> simp only [cond_true, cond_false, spliceref02_Sum.j1, stk, tdivU, hk]
    · rw [if_pos trivial, show (false == false) = true from rfl, cond_true, BitVec.xor_zero]
      exact ih _ (by omega)
    · rw [if_neg (by decide), show (false == true) = false from rfl, cond_false, show (3988292384 : Int) = U poly from by decide, xorU]
      exact ih _ (by omega)
    · rw [if_neg (by decide), show (true == false) = false from rfl, cond_false, show (3988292384 : Int) = U poly from by decide, xorU]
      exact ih _ (by omega)
    · rw [if_pos trivial, show (true == true) = true from rfl, cond_true, BitVec.xor_zero]
      exact ih _ (by omega)
theorem ref_out (s : ByteArray) (hs : s.size ≤ 9223372036854775807) : ∀ (m i : Nat) (c : BitVec 32), i + m = s.size → goLoop (spliceref02_Sum.step s) (.l1 (U c) (i : Int)) = some (IntKind.wrap .u32 (4294967295 - U (run c ((bys s).drop i))))
  | 0, i, c, h => by
    rw [loop_eq]
    simp only [spliceref02_Sum.step, spliceref02_Sum.l1]
    rw [if_neg (by omega), List.drop_eq_nil_of_le (by rw [bys_length]; omega)]
    rfl
  | m + 1, i, c, h => by
    rw [loop_eq]
    simp only [spliceref02_Sum.step, spliceref02_Sum.l1]
    rw [if_pos (by omega), bys_drop (by omega)]
    simp only [stk]
    rw [show (0 : Int) = ((0 : Nat) : Int) from rfl, ref_in s i (by omega) 8 0 c rfl, show IntKind.wrap .i64 ((i : Int) + 1) = ((i + 1 : Nat) : Int) by rw [wr (by omega)]; omega, ref_out s hs m (i + 1) _ (by omega)]
    rfl
theorem subU (c : BitVec 32) : IntKind.wrap .u32 (4294967295 - U c) = U (~~~ c) := by
  rw [wr32 (by have := U_rng c; omega)]
  show _ = (((~~~ c).toNat : Nat) : Int)
  rw [BitVec.toNat_not]
  have := c.isLt
  show (4294967295 : Int) - (c.toNat : Int) = _
  omega
theorem ref_eq (s : ByteArray) (hs : s.size ≤ 9223372036854775807) : spliceref02_Sum s = some (U (crc (bys s))) := by
  unfold spliceref02_Sum
  have := ref_out s hs s.size 0 (~~~ 0#32) (by omega)
  rw [show U (~~~ 0#32) = 4294967295 from by decide, show ((0 : Nat) : Int) = 0 from rfl, List.drop_zero, subU] at this
  exact this
end Go.SyP
