/- The sum of bytes (CRC-32): what it is, and that what differs within four bytes side by side has another sum. -/
import Derived.Test.YtckflmadcnfpeaaSyM
set_option linter.unusedVariables false
set_option linter.unusedSimpArgs false
namespace Go.Crc
open Go Go.Sy

abbrev poly : BitVec 32 := 3988292384#32
def st (c : BitVec 32) : BitVec 32 := (c >>> 1) ^^^ (bif c.getLsbD 0 then poly else 0#32)
def stn : Nat → BitVec 32 → BitVec 32
  | 0, c => c
  | n + 1, c => stn n (st c)

theorem poly31 : poly.getLsbD 31 = true := by decide
theorem st_bit31 (c : BitVec 32) : (st c).getLsbD 31 = c.getLsbD 0 := by
  unfold st
  rw [BitVec.getLsbD_xor, BitVec.getLsbD_ushiftRight, BitVec.getLsbD_of_ge c (1 + 31) (by omega)]
  cases c.getLsbD 0
  · simp
  · simp only [cond_true, poly31]; rfl
theorem st_inj {a b : BitVec 32} (h : st a = st b) : a = b := by
  have h0 : a.getLsbD 0 = b.getLsbD 0 := by rw [← st_bit31, ← st_bit31, h]
  have h1 : a >>> 1 = b >>> 1 := by
    unfold st at h
    rw [h0] at h
    have := congrArg (· ^^^ (bif b.getLsbD 0 then poly else 0#32)) h
    simpa [BitVec.xor_assoc] using this
  apply BitVec.eq_of_getLsbD_eq
  intro i hi
  cases i with
  | zero => exact h0
  | succ i =>
    have := congrArg (fun x : BitVec 32 => x.getLsbD i) h1
    simp only [BitVec.getLsbD_ushiftRight] at this
    rwa [Nat.add_comm 1 i] at this
theorem stn_inj : ∀ {n : Nat} {a b : BitVec 32}, stn n a = stn n b → a = b
  | 0, _, _, h => h
  | n + 1, _, _, h => st_inj (stn_inj (n := n) h)
theorem stn_add : ∀ (n m : Nat) (c : BitVec 32), stn (n + m) c = stn m (stn n c)
  | 0, m, c => by rw [Nat.zero_add]; rfl
  | n + 1, m, c => by rw [Nat.succ_add]; exact stn_add n m (st c)
theorem st_xor_even (c z : BitVec 32) (hz : z.getLsbD 0 = false) : st (c ^^^ z) = st c ^^^ (z >>> 1) := by
  unfold st
  rw [BitVec.getLsbD_xor, hz, Bool.xor_false]
  have : (c ^^^ z) >>> 1 = (c >>> 1) ^^^ (z >>> 1) := by
    apply BitVec.eq_of_getLsbD_eq
    intro i hi
    simp [BitVec.getLsbD_ushiftRight, BitVec.getLsbD_xor]
  rw [this, BitVec.xor_assoc, BitVec.xor_assoc, BitVec.xor_comm (z >>> 1)]
theorem stn_shift : ∀ (n : Nat) (c w : BitVec 32), (∀ i, 32 - n ≤ i → w.getLsbD i = false) → stn n (c ^^^ (w <<< n)) = stn n c ^^^ w
  | 0, c, w, _ => by simp [stn]
  | n + 1, c, w, hw => by
    show stn n (st (c ^^^ (w <<< (n + 1)))) = stn n (st c) ^^^ w
    rw [st_xor_even _ _ (by simp [BitVec.getLsbD_shiftLeft])]
    have : (w <<< (n + 1)) >>> 1 = w <<< n := by
      apply BitVec.eq_of_getLsbD_eq
      intro i hi
      rw [BitVec.getLsbD_ushiftRight, BitVec.getLsbD_shiftLeft, BitVec.getLsbD_shiftLeft]
      by_cases h : i < n
      · simp [h]; omega
      · by_cases h2 : 1 + i < 32
        · simp [h, h2, hi, show ¬ (1 + i < n + 1) by omega, show 1 + i - (n + 1) = i - n by omega]
        · rw [show decide (1 + i < 32) = false by simp [h2]]
          simp only [Bool.false_and]
          rw [hw (i - n) (by omega)]
          simp
    rw [this]
    exact stn_shift n (st c) w fun i hi => hw i (by omega)

/-- A byte. -/
abbrev By (x : Nat) : BitVec 32 := BitVec.ofNat 32 (x % 256)
def eat (c : BitVec 32) (x : Nat) : BitVec 32 := stn 8 (c ^^^ By x)
def run (c : BitVec 32) (l : List Nat) : BitVec 32 := l.foldl eat c

theorem by_high (x : Nat) {i : Nat} (hi : 8 ≤ i) : (By x).getLsbD i = false := by
  unfold By
  rw [BitVec.getLsbD_ofNat]
  have : (x % 256).testBit i = false := Nat.testBit_lt_two_pow (Nat.lt_of_lt_of_le (Nat.mod_lt _ (by omega)) (Nat.pow_le_pow_right (by omega) hi : 2 ^ 8 ≤ 2 ^ i))
  rw [this, Bool.and_false]
theorem eat_inj {a b : BitVec 32} {x : Nat} (h : eat a x = eat b x) : a = b := by
  have := stn_inj h
  have := congrArg (· ^^^ By x) this
  simpa [BitVec.xor_assoc] using this
theorem run_inj : ∀ {l : List Nat} {a b : BitVec 32}, run a l = run b l → a = b
  | [], _, _, h => h
  | x :: l, a, b, h => eat_inj (run_inj (l := l) h)
theorem run_append (c : BitVec 32) (l m : List Nat) : run c (l ++ m) = run (run c l) m := by simp [run, List.foldl_append]
theorem by_inj {x y : Nat} (h : By x = By y) : x % 256 = y % 256 := by
  have := congrArg BitVec.toNat h
  simp only [BitVec.toNat_ofNat] at this
  omega

/-- Four bytes as one word. -/
def word (a b c d : Nat) : BitVec 32 := By a ^^^ (By b <<< 8) ^^^ (By c <<< 16) ^^^ (By d <<< 24)
theorem eat4 (s : BitVec 32) (a b c d : Nat) : run s [a, b, c, d] = stn 32 (s ^^^ word a b c d) := by
  show eat (eat (eat (eat s a) b) c) d = _
  unfold eat
  have e1 : ∀ (z : BitVec 32) (n : Nat) (x : Nat), n ≤ 24 → stn n z ^^^ By x = stn n (z ^^^ (By x <<< n)) := fun z n x hn => (stn_shift n z (By x) fun i hi => by_high x (by omega)).symm
  rw [e1 _ 8 b (by omega), ← stn_add, e1 _ 16 c (by omega), ← stn_add, e1 _ 24 d (by omega), ← stn_add]
  unfold word
  simp only [BitVec.xor_assoc]
theorem word_inj {a b c d a' b' c' d' : Nat} (h : word a b c d = word a' b' c' d') : a % 256 = a' % 256 ∧ b % 256 = b' % 256 ∧ c % 256 = c' % 256 ∧ d % 256 = d' % 256 := by
  have hb : ∀ i, i < 32 → (word a b c d).getLsbD i = (word a' b' c' d').getLsbD i := fun i _ => by rw [h]
  have key : ∀ (x y : Nat), (∀ i, i < 8 → (By x).getLsbD i = (By y).getLsbD i) → x % 256 = y % 256 := by
    intro x y hxy
    apply by_inj
    apply BitVec.eq_of_getLsbD_eq
    intro i hi
    by_cases h8 : i < 8
    · exact hxy i h8
    · rw [by_high x (by omega), by_high y (by omega)]
  have at_ : ∀ (a b c d i : Nat), i < 32 → (word a b c d).getLsbD i = (((By a).getLsbD i ^^ (!decide (i < 8) && (By b).getLsbD (i - 8))) ^^ (!decide (i < 16) && (By c).getLsbD (i - 16)) ^^ (!decide (i < 24) && (By d).getLsbD (i - 24))) := by
    intro a b c d i hi
    unfold word
    simp only [BitVec.getLsbD_xor, BitVec.getLsbD_shiftLeft, hi, decide_true, Bool.true_and]
  refine ⟨key _ _ fun i hi => ?_, key _ _ fun i hi => ?_, key _ _ fun i hi => ?_, key _ _ fun i hi => ?_⟩
  · have := hb i (by omega)
    rw [at_ _ _ _ _ _ (by omega), at_ _ _ _ _ _ (by omega)] at this
    simpa [hi, show i < 16 by omega, show i < 24 by omega] using this
  · have := hb (i + 8) (by omega)
    rw [at_ _ _ _ _ _ (by omega), at_ _ _ _ _ _ (by omega), by_high a (by omega), by_high a' (by omega)] at this
    simpa [show ¬ i + 8 < 8 by omega, show i + 8 < 16 by omega, show i + 8 < 24 by omega] using this
  · have := hb (i + 16) (by omega)
    rw [at_ _ _ _ _ _ (by omega), at_ _ _ _ _ _ (by omega), by_high a (by omega), by_high a' (by omega), by_high b (by omega), by_high b' (by omega)] at this
    simpa [show ¬ i + 16 < 8 by omega, show ¬ i + 16 < 16 by omega, show i + 16 < 24 by omega] using this
  · have := hb (i + 24) (by omega)
    rw [at_ _ _ _ _ _ (by omega), at_ _ _ _ _ _ (by omega), by_high a (by omega), by_high a' (by omega), by_high b (by omega), by_high b' (by omega), by_high c (by omega), by_high c' (by omega)] at this
    simpa [show ¬ i + 24 < 8 by omega, show ¬ i + 24 < 16 by omega, show ¬ i + 24 < 24 by omega] using this

/-- The sum. -/
def crc (l : List Nat) : BitVec 32 := ~~~ (run (~~~ 0#32) l)
theorem crc_apart {p s : List Nat} {a b c d a' b' c' d' : Nat} (h : crc (p ++ [a, b, c, d] ++ s) = crc (p ++ [a', b', c', d'] ++ s)) :
    a % 256 = a' % 256 ∧ b % 256 = b' % 256 ∧ c % 256 = c' % 256 ∧ d % 256 = d' % 256 := by
  unfold crc at h
  have h1 := congrArg (fun x => ~~~ x) h
  simp only [BitVec.not_not] at h1
  rw [run_append, run_append, run_append, run_append] at h1
  have h2 := run_inj h1
  rw [eat4, eat4] at h2
  have h3 := stn_inj h2
  have h4 : word a b c d = word a' b' c' d' := by
    have := congrArg (run (~~~ 0#32) p ^^^ ·) h3
    simpa [← BitVec.xor_assoc] using this
  exact word_inj h4
end Go.Crc
