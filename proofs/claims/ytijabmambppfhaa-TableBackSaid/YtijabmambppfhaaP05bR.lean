/- Numbers as bytes: what both texts write and read. -/
import Derived.Test.YtijabmambppfhaaP05bA
set_option linter.unusedVariables false
set_option linter.unusedSimpArgs false
namespace Go.SyP
open Go Go.Sy Sets

/-! ### Bits -/
theorem ofInt64 {x : Int} (h0 : 0 ≤ x) (h : x < 18446744073709551616) : (BitVec.ofInt 64 x).toNat = x.toNat := by
  rw [BitVec.toNat_ofInt]
  rw [Int.emod_eq_of_lt h0 (by simpa using h)]
theorem ofInt8 {x : Int} (h0 : 0 ≤ x) (h : x < 256) : (BitVec.ofInt 8 x).toNat = x.toNat := by
  rw [BitVec.toNat_ofInt]
  rw [Int.emod_eq_of_lt h0 (by simpa using h)]
theorem wr8 {n : Int} (h : 0 ≤ n ∧ n ≤ 255) : IntKind.wrap .u8 n = n := by
  simp [IntKind.wrap, IntKind.bits, IntKind.signed]; omega
theorem bAnd64 {x : Int} (h0 : 0 ≤ x) (h : x < 9223372036854775808) : bAnd .i64 x 127 = x % 128 := by
  show IntKind.wrap .i64 (BitVec.ofInt 64 x &&& BitVec.ofInt 64 127).toNat = _
  rw [BitVec.toNat_and, ofInt64 h0 (by omega), ofInt64 (by omega) (by omega), show ((127 : Int)).toNat = 2 ^ 7 - 1 from rfl, Nat.and_two_pow_sub_one_eq_mod]
  rw [wr (by omega)]
  omega
theorem bAnd1 {x : Int} (h0 : 0 ≤ x) (h : x < 9223372036854775808) : bAnd .i64 x 1 = x % 2 := by
  show IntKind.wrap .i64 (BitVec.ofInt 64 x &&& BitVec.ofInt 64 1).toNat = _
  rw [BitVec.toNat_and, ofInt64 h0 (by omega), ofInt64 (by omega) (by omega), show ((1 : Int)).toNat = 2 ^ 1 - 1 from rfl, Nat.and_two_pow_sub_one_eq_mod]
  rw [wr (by omega)]
  omega
theorem bAnd8 {x : Int} (h0 : 0 ≤ x) (h : x < 256) : bAnd .u8 x 127 = x % 128 := by
  show IntKind.wrap .u8 (BitVec.ofInt 8 x &&& BitVec.ofInt 8 127).toNat = _
  rw [BitVec.toNat_and, ofInt8 h0 h, ofInt8 (by omega) (by omega), show ((127 : Int)).toNat = 2 ^ 7 - 1 from rfl, Nat.and_two_pow_sub_one_eq_mod]
  rw [wr8 (by omega)]
  omega
theorem bOr8 {x : Int} (h0 : 0 ≤ x) (h : x < 128) : bOr .u8 x 128 = x + 128 := by
  show IntKind.wrap .u8 (BitVec.ofInt 8 x ||| BitVec.ofInt 8 128).toNat = _
  rw [BitVec.toNat_or, ofInt8 h0 (by omega), ofInt8 (by omega) (by omega), show ((128 : Int)).toNat = 2 ^ 7 * 1 from rfl, Nat.or_comm, ← Nat.two_pow_add_eq_or_of_lt (by omega)]
  rw [wr8 (by omega)]
  omega
theorem bOr64 {n y : Int} {i : Nat} (h0 : 0 ≤ n) (hn : n < 2 ^ i) (hy : 0 ≤ y) (h : y * 2 ^ i < 9223372036854775808) (hs : n + y * 2 ^ i < 9223372036854775808) : bOr .i64 n (y * 2 ^ i) = n + y * 2 ^ i := by
  show IntKind.wrap .i64 (BitVec.ofInt 64 n ||| BitVec.ofInt 64 (y * 2 ^ i)).toNat = _
  obtain ⟨Y, rfl⟩ := Int.eq_ofNat_of_zero_le hy
  obtain ⟨N, rfl⟩ := Int.eq_ofNat_of_zero_le h0
  have e : ((Y : Int) * 2 ^ i) = ((2 ^ i * Y : Nat) : Int) := by rw [Int.mul_comm]; simp
  rw [e] at h hs ⊢
  have hN : N < 2 ^ i := by
    have : ((N : Int)) < ((2 ^ i : Nat) : Int) := by simpa using hn
    omega
  rw [BitVec.toNat_or, ofInt64 (by omega) (by omega), ofInt64 (by omega) (by omega), Int.toNat_natCast, Int.toNat_natCast, Nat.or_comm, ← Nat.two_pow_add_eq_or_of_lt hN]
  rw [wr (by omega)]
  omega

/-! ### Strings as lists of bytes -/
def bs (l : List UInt8) : ByteArray := ⟨l.toArray⟩
theorem bs_append (a b : List UInt8) : bs a ++ bs b = bs (a ++ b) := by
  apply ByteArray.ext
  rw [ByteArray.data_append]
  simp [bs]
theorem bs_size (a : List UInt8) : (bs a).size = a.length := by
  have h : (bs a).size = a.length := rfl
  omega
theorem bs_eq (s : ByteArray) : bs s.data.toList = s := by simp [bs]
theorem bs_inj {a b : List UInt8} (h : bs a = bs b) : a = b := by
  have : (bs a).data.toList = (bs b).data.toList := by rw [h]
  simpa [bs] using this
theorem bs_nil : (⟨#[]⟩ : ByteArray) = bs [] := rfl
theorem toList_go (s : ByteArray) : ∀ (n i : Nat) (r : List UInt8), i + n = s.size → ByteArray.toList.loop s i r = r.reverse ++ s.data.toList.drop i
  | 0, i, r, h => by
    rw [ByteArray.toList.loop, if_neg (by omega), List.drop_of_length_le (by simp; omega)]
    simp
  | n + 1, i, r, h => by
    have hi : i < s.data.toList.length := by simp; omega
    rw [ByteArray.toList.loop, if_pos (by omega), toList_go s n (i + 1) _ (by omega), List.drop_eq_getElem_cons hi]
    have : s.get! i = s.data.toList[i] := by
      show s.data[i]! = _
      rw [getElem!_pos s.data i (by simpa using hi)]
      simp
    simp [this]
theorem toList_bs (l : List UInt8) : (bs l).toList = l := by
  rw [ByteArray.toList, toList_go (bs l) (bs l).size 0 [] (by omega)]
  simp [bs]
theorem byteAt_bs (l : List UInt8) {i : Nat} (h : i < l.length) : byteAt (bs l) (i : Int) = ((l.getD i 0).toNat : Int) := by
  unfold byteAt
  have h2 : ((i : Int)).toNat < (bs l).size := h
  rw [dif_pos h2, List.getD_eq_getElem?_getD, List.getElem?_eq_getElem h]
  rfl
theorem extract_bs (l : List UInt8) (i : Nat) : (bs l).extract i (bs l).size = bs (l.drop i) := by
  apply ByteArray.ext
  rw [ByteArray.data_extract]
  apply Array.ext'
  simp [bs, ByteArray.size]
  rw [List.take_of_length_le (by simp)]

/-! ### How a number is written -/
def numU (n : Nat) : List UInt8 := if n < 128 then [UInt8.ofNat n] else UInt8.ofNat (n % 128 + 128) :: numU (n / 128)
termination_by n
decreasing_by omega
theorem numU_small {n : Nat} (h : n < 128) : numU n = [UInt8.ofNat n] := by rw [numU, if_pos h]
theorem numU_big {n : Nat} (h : ¬ n < 128) : numU n = UInt8.ofNat (n % 128 + 128) :: numU (n / 128) := by rw [numU, if_neg h]
theorem numU_len : ∀ (k n : Nat), n < 128 ^ (k + 1) → (numU n).length ≤ k + 1
  | 0, n, h => by rw [numU_small (by simpa using h)]; simp
  | k + 1, n, h => by
    by_cases h1 : n < 128
    · rw [numU_small h1]; simp
    · rw [numU_big h1, List.length_cons]
      have := numU_len k (n / 128) (by rw [Nat.div_lt_iff_lt_mul (by omega)]; rw [Nat.pow_succ] at h; exact h)
      omega
theorem numU_len10 {n : Nat} (h : n < 9223372036854775808) : (numU n).length ≤ 10 := numU_len 9 n (by omega)
/-- What one number is as text: nothing if it is below zero. -/
def numT (v : Int) : List UInt8 := if v < 0 then [] else numU v.toNat
theorem numT_len {v : Int} (h : v < 9223372036854775808) : (numT v).length ≤ 10 := by
  unfold numT
  split
  · simp
  · exact numU_len10 (by omega)

theorem strB_snoc (out : List Int) (l : List UInt8) (x : Int) (h : strB out = bs l) : strB (out ++ [x]) = bs (l ++ [UInt8.ofNat x.toNat]) := by
  have h1 : (out.map fun n => UInt8.ofNat n.toNat) = l := bs_inj h
  unfold strB
  rw [List.map_append, h1]
  rfl

theorem vint_loop : ∀ (k n : Nat) (out : List Int) (l : List UInt8), n ≤ k → n < 9223372036854775808 → out.length + k ≤ out.length + 9223372036854775808 → out.length + (numU n).length ≤ 100 → strB out = bs l → goLoop vint_Num.step (.l1 (n : Int) out) = some (bs (l ++ numU n)) := by
  intro k
  induction k with
  | zero =>
    intro n out l hk hn _ hlen hs
    obtain rfl : n = 0 := by omega
    rw [loop_eq]
    simp only [vint_Num.step, vint_Num.l1]
    rw [if_neg (by omega), if_pos (by omega)]
    simp only [stk]
    rw [strB_snoc out l _ hs, wr8 (by omega)]
    rw [numU_small (by omega)]
    rfl
  | succ k ih =>
    intro n out l hk hn _ hlen hs
    rw [loop_eq]
    simp only [vint_Num.step, vint_Num.l1]
    by_cases h1 : n < 128
    · rw [if_neg (by omega), if_pos (by rw [numU_small h1] at hlen; simp at hlen; omega)]
      simp only [stk]
      rw [strB_snoc out l _ hs, wr8 (by omega), numU_small h1]
      rfl
    · rw [numU_big h1, List.length_cons] at hlen
      rw [if_pos (by omega), if_pos (by omega)]
      simp only [stk]
      have hd : Int.fdiv (n : Int) 128 = ((n / 128 : Nat) : Int) := by
        rw [Int.fdiv_eq_ediv_of_nonneg _ (by omega)]
        omega
      have hb : bOr .u8 (IntKind.wrap .u8 (bAnd .i64 (n : Int) 127)) 128 = ((n % 128 + 128 : Nat) : Int) := by
        rw [bAnd64 (by omega) (by omega), wr8 (by omega), bOr8 (by omega) (by omega)]
        omega
      rw [hd, hb]
      have := ih (n / 128) (out ++ [((n % 128 + 128 : Nat) : Int)]) (l ++ [UInt8.ofNat (n % 128 + 128)]) (by omega) (by omega) (by omega) (by simp; omega) (strB_snoc _ _ _ hs)
      rw [this, numU_big h1, List.append_assoc]
      rfl

theorem vint_Num_eq (v : Int) (h : v < 9223372036854775808) : vint_Num v = some (bs (numT v)) := by
  unfold vint_Num numT
  by_cases h0 : v < 0
  · rw [if_pos h0, if_pos h0]; rfl
  · rw [if_neg h0, if_neg h0]
    obtain ⟨n, rfl⟩ := Int.eq_ofNat_of_zero_le (by omega : 0 ≤ v)
    have := numU_len10 (n := n) (by omega)
    exact vint_loop n n [] [] (Nat.le_refl _) (by omega) (by simp; omega) (by simp; omega) rfl

theorem ref_loop : ∀ (k n : Nat) (out : List Int) (l : List UInt8), n ≤ k → n < 9223372036854775808 → out.length + (numU n).length ≤ 100 → strB out = bs l → goLoop spliceref01_Num.step (.l1 (n : Int) out) = some (bs (l ++ numU n)) := by
  intro k
  induction k with
  | zero =>
    intro n out l hk hn hlen hs
    obtain rfl : n = 0 := by omega
    rw [loop_eq]
    simp only [spliceref01_Num.step, spliceref01_Num.l1]
    rw [if_neg (by omega), if_pos (by rw [numU_small (by omega)] at hlen; simp at hlen; omega)]
    simp only [stk]
    rw [strB_snoc out l _ hs, wr8 (by omega)]
    rw [numU_small (by omega)]
    rfl
  | succ k ih =>
    intro n out l hk hn hlen hs
    rw [loop_eq]
    simp only [spliceref01_Num.step, spliceref01_Num.l1]
    by_cases h1 : n < 128
    · rw [if_neg (by omega), if_pos (by rw [numU_small h1] at hlen; simp at hlen; omega)]
      simp only [stk]
      rw [strB_snoc out l _ hs, wr8 (by omega), numU_small h1]
      rfl
    · rw [numU_big h1, List.length_cons] at hlen
      rw [if_pos (by omega), if_pos (by omega)]
      simp only [stk]
      have hd : IntKind.wrap .i64 (Int.tdiv (n : Int) 128) = ((n / 128 : Nat) : Int) := by
        rw [Int.tdiv_eq_ediv_of_nonneg (by omega), wr (by omega)]
        omega
      have hb : IntKind.wrap .u8 (IntKind.wrap .i64 (128 + (Int.tmod (n : Int) 128))) = ((n % 128 + 128 : Nat) : Int) := by
        rw [Int.tmod_eq_emod_of_nonneg (by omega), wr (by omega), wr8 (by omega)]
        omega
      rw [hd, hb]
      have := ih (n / 128) (out ++ [((n % 128 + 128 : Nat) : Int)]) (l ++ [UInt8.ofNat (n % 128 + 128)]) (by omega) (by omega) (by simp; omega) (strB_snoc _ _ _ hs)
      rw [this, numU_big h1, List.append_assoc]
      rfl

theorem ref_Num_eq (v : Int) (h : v < 9223372036854775808) : spliceref01_Num v = some (bs (numT v)) := by
  unfold spliceref01_Num numT
  by_cases h0 : v < 0
  · rw [if_pos h0, if_pos h0]; rfl
  · rw [if_neg h0, if_neg h0]
    obtain ⟨n, rfl⟩ := Int.eq_ofNat_of_zero_le (by omega : 0 ≤ v)
    have := numU_len10 (n := n) (by omega)
    exact ref_loop n n [] [] (Nat.le_refl _) (by omega) (by simp; omega) rfl

/-- A whole number as text. -/
def zig (v : Int) : Int := if v < 0 then -2 * v - 1 else 2 * v
def wholeT (v : Int) : List UInt8 := if -4611686018427387904 ≤ v ∧ v ≤ 4611686018427387903 then numT (zig v) else []
theorem zig_bound {v : Int} (h : -4611686018427387904 ≤ v ∧ v ≤ 4611686018427387903) : 0 ≤ zig v ∧ zig v < 9223372036854775808 := by
  unfold zig; split <;> omega
theorem wholeT_len (v : Int) : (wholeT v).length ≤ 10 := by
  unfold wholeT
  split
  · exact numT_len (zig_bound ‹_›).2
  · simp
theorem may_eq (v : Int) : vint_may v = decide (-4611686018427387904 ≤ v ∧ v ≤ 4611686018427387903) := by
  unfold vint_may vint_may.j1
  by_cases h : v ≥ -4611686018427387904
  · rw [if_pos h, Bool.eq_iff_iff]; simp; omega
  · rw [if_neg h, Bool.eq_iff_iff]; simp; omega
theorem May_eq (v : Int) : spliceref01_May v = decide (-4611686018427387904 ≤ v ∧ v ≤ 4611686018427387903) := by
  unfold spliceref01_May spliceref01_May.j1
  by_cases h : v ≥ -4611686018427387904
  · rw [if_pos h, Bool.eq_iff_iff]; simp; omega
  · rw [if_neg h, Bool.eq_iff_iff]; simp; omega
theorem vint_Whole_eq (v : Int) : vint_Whole v = some (bs (wholeT v)) := by
  unfold vint_Whole wholeT
  rw [may_eq]
  by_cases hm : -4611686018427387904 ≤ v ∧ v ≤ 4611686018427387903
  · have hb := zig_bound hm
    rw [if_pos (decide_eq_true hm), if_pos hm]
    unfold zig at hb ⊢
    by_cases h0 : v < 0
    · rw [if_pos h0] at hb
      have e : IntKind.wrap .i64 (IntKind.wrap .i64 (-2 * v) - 1) = -2 * v - 1 := by simp [IntKind.wrap, IntKind.bits, IntKind.signed]; omega
      rw [if_pos h0, if_pos h0, e, vint_Num_eq _ hb.2]
      rfl
    · rw [if_neg h0] at hb
      rw [if_neg h0, if_neg h0, wr (n := 2 * v) (by omega), vint_Num_eq _ hb.2]
      rfl
  · rw [if_neg (by simpa using hm), if_neg hm]
    rfl
theorem ref_Whole_eq (v : Int) : spliceref01_Whole v = some (bs (wholeT v)) := by
  unfold spliceref01_Whole wholeT
  rw [May_eq]
  by_cases hm : -4611686018427387904 ≤ v ∧ v ≤ 4611686018427387903
  · have hb := zig_bound hm
    rw [if_pos (decide_eq_true hm), if_pos hm]
    unfold zig at hb ⊢
    by_cases h0 : v < 0
    · rw [if_pos h0] at hb
      have e : IntKind.wrap .i64 (IntKind.wrap .i64 (IntKind.wrap .i64 (0 - v) - v) - 1) = -2 * v - 1 := by simp [IntKind.wrap, IntKind.bits, IntKind.signed]; omega
      rw [if_neg (by omega), if_pos h0, e, ref_Num_eq _ hb.2]
      rfl
    · rw [if_neg h0] at hb
      have e : IntKind.wrap .i64 (v + v) = 2 * v := by rw [wr (by omega)]; omega
      rw [if_pos (by omega), if_neg h0, e, ref_Num_eq _ hb.2]
      rfl
  · rw [if_neg (by simpa using hm), if_neg hm]
    rfl
end Go.SyP
