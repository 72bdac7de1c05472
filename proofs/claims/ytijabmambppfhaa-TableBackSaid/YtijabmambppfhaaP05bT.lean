/- How a number is read: both readers do the same. -/
import Derived.Test.YtijabmambppfhaaP05bR
set_option linter.unusedVariables false
set_option linter.unusedSimpArgs false
namespace Go.SyP
open Go Go.Sy Sets

inductive RdR where
  | bad (e : Int)
  | ok (n : Nat) (rest : List UInt8)
def rdU : Nat → List UInt8 → RdR
  | _, [] => .bad 5
  | k, b :: r => if k = 9 ∨ (0 < k ∧ b.toNat = 0) then .bad 3 else if b.toNat < 128 then .ok b.toNat r else
    match rdU (k + 1) r with
    | .ok n q => .ok (b.toNat - 128 + 128 * n) q
    | .bad e => .bad e
def val : List UInt8 → Nat
  | [] => 0
  | b :: r => b.toNat % 128 + 128 * val r
theorem val_lt : ∀ l, val l < 128 ^ l.length
  | [] => by simp [val]
  | b :: r => by
    have := val_lt r
    rw [val, List.length_cons, Nat.pow_succ]
    have := Nat.mod_lt b.toNat (show 0 < 128 by omega)
    omega
theorem val_snoc : ∀ (l : List UInt8) (b : UInt8), val (l ++ [b]) = val l + 128 ^ l.length * (b.toNat % 128)
  | [], b => by simp [val]
  | a :: r, b => by
    rw [List.cons_append, val, val_snoc r b, val, List.length_cons, Nat.pow_succ, Nat.mul_add, Nat.add_assoc]
    congr 2
    rw [← Nat.mul_assoc, Nat.mul_comm 128 (128 ^ r.length)]
def shift (pre : List UInt8) : RdR → RdR
  | .ok n q => .ok (val pre + 128 ^ pre.length * n) q
  | .bad e => .bad e
theorem shift_nil (x : RdR) : shift [] x = x := by cases x <;> simp [shift, val]
theorem shift_snoc {pre : List UInt8} {b : UInt8} {r : List UInt8} (h9 : pre.length ≠ 9) (hb : 128 ≤ b.toNat) : shift pre (rdU pre.length (b :: r)) = shift (pre ++ [b]) (rdU (pre ++ [b]).length r) := by
  rw [rdU, if_neg (by omega), if_neg (by omega), List.length_append, List.length_singleton]
  have hlt := b.toNat_lt
  cases rdU (pre.length + 1) r with
  | bad e => rfl
  | ok n q =>
    simp only [shift]
    rw [val_snoc, List.length_append, List.length_singleton, Nat.pow_succ, show b.toNat % 128 = b.toNat - 128 by omega, Nat.mul_add, Nat.add_assoc]
    congr 3
    rw [Nat.mul_assoc]
theorem rdU_lt : ∀ {l : List UInt8} {k n : Nat} {q : List UInt8}, k ≤ 9 → rdU k l = .ok n q → n < 128 ^ (9 - k) ∧ q.length < l.length
  | [], k, n, q, _, h => by simp [rdU] at h
  | b :: r, k, n, q, hk, h => by
    rw [rdU] at h
    by_cases h1 : k = 9 ∨ (0 < k ∧ b.toNat = 0)
    · rw [if_pos h1] at h; cases h
    · rw [if_neg h1] at h
      have hp : 128 ^ (9 - k) = 128 ^ (9 - (k + 1)) * 128 := by rw [← Nat.pow_succ]; congr 1; omega
      have hpos : 0 < 128 ^ (9 - (k + 1)) := Nat.pow_pos (by omega)
      by_cases h2 : b.toNat < 128
      · rw [if_pos h2] at h
        injection h with e1 e2
        subst e1; subst e2
        exact ⟨by rw [hp]; have := Nat.mul_le_mul_right 128 hpos; omega, by simp⟩
      · rw [if_neg h2] at h
        cases hr : rdU (k + 1) r with
        | bad e => rw [hr] at h; cases h
        | ok n' q' =>
          rw [hr] at h
          injection h with e1 e2
          subst e2
          obtain ⟨h3, h4⟩ := rdU_lt (by omega) hr
          have := b.toNat_lt
          have h5 : n' + 1 ≤ 128 ^ (9 - (k + 1)) := h3
          have := Nat.mul_le_mul_right 128 h5
          exact ⟨by rw [hp, ← e1]; omega, by simp; omega⟩

/-! ### The reader of vint -/
theorem whole_false {l : List UInt8} (h : ∀ b ∈ l, 128 ≤ b.toNat) (hl : l.length ≤ 9) : vint_whole (bs l) = some false := by
  unfold vint_whole
  obtain ⟨r, h1, h2⟩ : ∃ r, goLoop (vint_whole.step (bs l)) (.l1 0) = some r ∧ r = false := by
    refine for_post (n := l.length) (fun i (_ : Unit) => vint_whole.S.l1 (i : Int)) (fun _ _ => True) _ ?_ ?_ 0 () (Nat.zero_le _) trivial
    · intro _ _
      simp only [vint_whole.step, vint_whole.l1, bs_size, Int.lt_irrefl, if_false]
      exact ⟨_, rfl, rfl⟩
    · intro i _ hi _
      left
      have hstep : (0 : Int) ≤ (i : Int) ∧ (i : Int) < (l.length : Int) := by omega
      have hb := h (l.getD i 0) (by rw [List.getD_eq_getElem?_getD, List.getElem?_eq_getElem hi]; exact List.getElem_mem hi)
      simp only [vint_whole.step, vint_whole.l1, bs_size, hstep.2, if_true, hstep, and_self]
      rw [if_neg (by omega), byteAt_bs l hi, decide_eq_false (by omega)]
      simp only [vint_whole.j1, Bool.false_eq_true, if_false, wr1 hi (by omega)]
      exact ⟨(), trivial, trivial⟩
  rw [h1, h2]
theorem whole_true {l : List UInt8} {j : Nat} (hj : j < l.length) (h9 : j ≤ 9) (h : j = 9 ∨ (l.getD j 0).toNat < 128) (hn : l.length ≤ 9223372036854775807) : vint_whole (bs l) = some true := by
  unfold vint_whole
  obtain ⟨r, h1, h2⟩ : ∃ r, goLoop (vint_whole.step (bs l)) (.l1 0) = some r ∧ r = true := by
    refine for_post (n := j) (fun i (_ : Unit) => vint_whole.S.l1 (i : Int)) (fun _ _ => True) _ ?_ ?_ 0 () (Nat.zero_le _) trivial
    · intro _ _
      have hstep : (0 : Int) ≤ (j : Int) ∧ (j : Int) < (l.length : Int) := by omega
      simp only [vint_whole.step, vint_whole.l1, vint_whole.j1, bs_size, hstep.2, if_true, hstep, and_self]
      by_cases e : j = 9
      · rw [if_pos (by omega)]; exact ⟨_, rfl, rfl⟩
      · rw [if_neg (by omega), byteAt_bs l hj, decide_eq_true (by omega)]
        exact ⟨_, rfl, rfl⟩
    · intro i _ hi _
      have hstep : (0 : Int) ≤ (i : Int) ∧ (i : Int) < (l.length : Int) := by omega
      simp only [vint_whole.step, vint_whole.l1, vint_whole.j1, bs_size, hstep.2, if_true, hstep, and_self]
      rw [if_neg (by omega), byteAt_bs l (by omega)]
      by_cases e : ((l.getD i 0).toNat : Int) < 128
      · right; rw [decide_eq_true e]; exact ⟨_, rfl, rfl⟩
      · left; rw [decide_eq_false e, wr1 (show i < l.length by omega) hn]; exact ⟨(), rfl, trivial⟩
  rw [h1, h2]

def outV : RdR → Int × vint_Reader
  | .ok n q => ((n : Int), ⟨bs q, 0⟩)
  | .bad e => (0, ⟨bs [], e⟩)
theorem getD_mid (pre r : List UInt8) (b : UInt8) : (pre ++ b :: r).getD pre.length 0 = b := by
  rw [List.getD_eq_getElem?_getD, List.getElem?_append_right (Nat.le_refl _)]
  simp
theorem pow128 (i : Nat) : (128 : Int) ^ i = 2 ^ (7 * i) := by
  rw [Int.pow_mul]; rfl
theorem sh_bits {n y i : Nat} (hn : n < 128 ^ i) (hi : i ≤ 8) (hy : y < 128) : bOr .i64 (n : Int) (IntKind.wrap .i64 ((y : Int) * 2 ^ (min (IntKind.wrap .i64 (7 * (i : Int))).toNat 64))) = ((n + 128 ^ i * y : Nat) : Int) := by
  rw [wr (n := 7 * (i : Int)) (by omega), show min (7 * (i : Int)).toNat 64 = 7 * i by omega]
  have h1 : n + 128 ^ i * y < 128 ^ (i + 1) := by
    rw [Nat.pow_succ]
    have := Nat.mul_le_mul_left (128 ^ i) (show y ≤ 127 by omega)
    omega
  have h2 : 128 ^ (i + 1) ≤ 9223372036854775808 := Nat.le_trans (Nat.pow_le_pow_right (by omega) (show i + 1 ≤ 9 by omega)) (by decide)
  have e : ((y : Int) * 2 ^ (7 * i)) = ((128 ^ i * y : Nat) : Int) := by rw [← pow128, Int.mul_comm]; simp
  rw [wr (by rw [e]; omega), bOr64 (by omega) (by rw [← pow128]; exact_mod_cast hn) (by omega) (by rw [e]; omega) (by rw [e]; omega), e]
  omega

theorem fail_first (s : ByteArray) (e : Int) : vint_Reader_fail ⟨s, 0⟩ e = ⟨bs [], e⟩ := rfl
theorem fail_then (e f : Int) (h : e ≠ 0) : vint_Reader_fail ⟨bs [], e⟩ f = ⟨bs [], e⟩ := by
  unfold vint_Reader_fail
  rw [if_neg h]
  rfl

theorem vint_Num_loop : ∀ (r pre : List UInt8), (∀ b ∈ pre, 128 ≤ b.toNat) → pre.length ≤ 9 → pre.length + r.length ≤ 1000000 →
    goLoop (vint_Reader_Num.step ⟨bs (pre ++ r), 0⟩) (.l1 (val pre : Int) (pre.length : Int)) = some (outV (shift pre (rdU pre.length r)))
  | [], pre, hp, h9, hn => by
    rw [loop_eq]
    simp only [vint_Reader_Num.step, vint_Reader_Num.l1, vint_Reader_Num.j1, List.append_nil, bs_size, Int.lt_irrefl, if_false]
    rw [whole_false hp h9]
    simp only [Option.bind_some, Bool.false_eq_true, if_false, bnd, fail_first, stk]
    rfl
  | b :: r, pre, hp, h9, hn => by
    have hlen : (pre ++ b :: r).length = pre.length + (r.length + 1) := by simp
    have hn' : pre.length + (r.length + 1) ≤ 1000000 := by simpa using hn
    have hi : pre.length < (pre ++ b :: r).length := by omega
    have hstep : (0 : Int) ≤ (pre.length : Int) ∧ (pre.length : Int) < ((pre ++ b :: r).length : Int) := by omega
    have hba : byteAt (bs (pre ++ b :: r)) (pre.length : Int) = (b.toNat : Int) := by rw [byteAt_bs _ hi, getD_mid]
    have hb256 := b.toNat_lt
    rw [loop_eq]
    simp only [vint_Reader_Num.step, vint_Reader_Num.l1, bs_size, hstep.2, if_true, hstep, and_self, hba]
    have bad : ∀ (hw : vint_whole (bs (pre ++ b :: r)) = some true), stk (vint_Reader_Num.j2 ⟨bs (pre ++ b :: r), 0⟩ (val pre : Int) (pre.length : Int) true) (goLoop (vint_Reader_Num.step ⟨bs (pre ++ b :: r), 0⟩)) = some (outV (.bad 3)) := fun hw => by
      simp only [vint_Reader_Num.j2, if_true, hw, Option.bind_some, bnd, fail_first, vint_Reader_Num.j3, fail_then 3 5 (by decide), stk]
      rfl
    by_cases e9 : pre.length = 9
    · rw [if_pos (by omega), bad (whole_true (j := 9) (by omega) (by omega) (.inl rfl) (by omega)), rdU, if_pos (.inl e9)]
      rfl
    · rw [if_neg (by omega)]
      by_cases e0 : 0 < pre.length ∧ b.toNat = 0
      · rw [if_pos (by omega), show (((b.toNat : Int)) == 0) = true by rw [e0.2]; rfl, bad (whole_true hi h9 (.inr (by rw [getD_mid]; omega)) (by omega)), rdU, if_pos (.inr e0)]
        rfl
      · have hj : stk (vint_Reader_Num.j2 ⟨bs (pre ++ b :: r), 0⟩ (val pre : Int) (pre.length : Int) false) (goLoop (vint_Reader_Num.step ⟨bs (pre ++ b :: r), 0⟩)) = some (outV (shift pre (rdU pre.length (b :: r)))) := by
          simp only [vint_Reader_Num.j2, Bool.false_eq_true, if_false, hba, bs_size]
          have w1 : IntKind.wrap .i64 ((pre.length : Int) + 1) = ((pre.length + 1 : Nat) : Int) := wr1 hi (by omega)
          by_cases h128 : b.toNat < 128
          · rw [if_pos (by omega), w1, if_pos (by omega), if_pos (by rw [wr (by omega)]; omega), wr (n := (b.toNat : Int)) (by omega), sh_bits (val_lt pre) (by omega) h128]
            simp only [bnd, stk]
            rw [rdU, if_neg (by omega), if_pos h128, show (((pre.length + 1 : Nat) : Int)).toNat = pre.length + 1 from rfl, show (pre ++ b :: r).length = (bs (pre ++ b :: r)).size from rfl, extract_bs, List.drop_append, List.drop_of_length_le (by omega)]
            simp [shift, outV]
          · have hm : bAnd .u8 (b.toNat : Int) 127 = ((b.toNat % 128 : Nat) : Int) := by rw [bAnd8 (by omega) (by omega)]; omega
            rw [if_neg (by omega), if_pos (by rw [wr (by omega)]; omega), hm, wr (n := ((b.toNat % 128 : Nat) : Int)) (by omega), sh_bits (val_lt pre) (by omega) (Nat.mod_lt _ (by omega)), w1]
            simp only [bnd, stk]
            rw [shift_snoc e9 (by omega), ← val_snoc]
            have := vint_Num_loop r (pre ++ [b]) (fun x hx => by
              rcases List.mem_append.1 hx with h | h
              · exact hp x h
              · rw [List.mem_singleton.1 h]; omega) (by simp; omega) (by simp; omega)
            rw [List.append_assoc] at this
            simpa using this
        by_cases hp0 : pre.length = 0
        · rw [if_neg (by omega)]; exact hj
        · rw [if_pos (by omega), show (((b.toNat : Int)) == 0) = false by rw [beq_eq_false_iff_ne]; omega]; exact hj

/-! ### The reader of the document -/
def outR : RdR → spliceref01_Reader × Int
  | .ok n q => (⟨bs q, 0⟩, (n : Int))
  | .bad e => (⟨bs [], e⟩, 0)
theorem ref_back (pre r : List UInt8) (b : UInt8) (h9 : pre.length ≤ 8) (hn : pre.length + r.length ≤ 1000000) : ∀ (q : Nat) (rest : List UInt8), pre ++ [b] = (pre ++ [b]).take q ++ rest → q ≤ pre.length + 1 →
    goLoop (spliceref01_Reader_Num.step ⟨bs (pre ++ b :: r), 0⟩) (.l2 (pre.length : Int) (val rest : Int) ((q : Int) - 1)) = some (outR (.ok (val (pre ++ [b])) r))
  | 0, rest, h, _ => by
    rw [List.take_zero, List.nil_append] at h
    subst h
    rw [loop_eq]
    simp only [spliceref01_Reader_Num.step, spliceref01_Reader_Num.l2, bs_size]
    have hlen : (pre ++ b :: r).length = pre.length + (r.length + 1) := by simp
    have w1 : IntKind.wrap .i64 ((pre.length : Int) + 1) = ((pre.length + 1 : Nat) : Int) := wr1 (n := pre.length + (r.length + 1)) (by omega) (by omega)
    rw [if_neg (by omega), w1, if_pos (by omega)]
    simp only [stk]
    rw [show (((pre.length + 1 : Nat) : Int)).toNat = pre.length + 1 from rfl, show (pre ++ b :: r).length = (bs (pre ++ b :: r)).size from rfl, extract_bs, List.drop_append, List.drop_of_length_le (by omega)]
    simp [outR]
  | q + 1, rest, h, hq => by
    have hlen : (pre ++ b :: r).length = pre.length + (r.length + 1) := by simp
    have hql : q < (pre ++ [b]).length := by simp; omega
    have hx : (pre ++ [b]).take (q + 1) = (pre ++ [b]).take q ++ [(pre ++ [b]).getD q 0] := take_at hql
    have hba : byteAt (bs (pre ++ b :: r)) (q : Int) = (((pre ++ [b]).getD q 0).toNat : Int) := by
      rw [byteAt_bs _ (by omega)]
      congr 2
      rw [List.getD_eq_getElem?_getD, List.getD_eq_getElem?_getD, show pre ++ b :: r = (pre ++ [b]) ++ r by simp, List.getElem?_append_left hql]
    rw [hx, List.append_assoc] at h
    have hrl : rest.length ≤ 8 - q + 0 ∧ rest.length + q + 1 = pre.length + 1 := by
      have := congrArg List.length h
      simp at this
      omega
    generalize (pre ++ [b]).getD q 0 = x at h hba
    have hv := val_lt rest
    have hp : 128 ^ rest.length ≤ 128 ^ 8 := Nat.pow_le_pow_right (by omega) (by omega)
    have hm := Nat.mod_lt x.toNat (show 0 < 128 by omega)
    have hx256 := x.toNat_lt
    have e8 : (128 : Nat) ^ 8 = 72057594037927936 := by decide
    rw [loop_eq]
    simp only [spliceref01_Reader_Num.step, spliceref01_Reader_Num.l2, bs_size]
    rw [show ((q + 1 : Nat) : Int) - 1 = (q : Int) by omega, if_pos (by omega), if_pos (by omega), hba]
    simp only [bnd, stk]
    have e1 : IntKind.wrap .i64 (IntKind.wrap .i64 (128 * (val rest : Int)) + Int.tmod (IntKind.wrap .i64 (x.toNat : Int)) 128) = (val (x :: rest) : Int) := by
      rw [wr (n := (x.toNat : Int)) (by omega), wr (n := 128 * (val rest : Int)) (by omega), Int.tmod_eq_emod_of_nonneg (by omega), wr (by omega), val]
      omega
    rw [e1, wr (by omega)]
    exact ref_back pre r b h9 hn q (x :: rest) (by simpa using h) (by omega)

theorem ref_Num_loop : ∀ (r pre : List UInt8), pre.length ≤ 9 → pre.length + r.length ≤ 1000000 →
    goLoop (spliceref01_Reader_Num.step ⟨bs (pre ++ r), 0⟩) (.l1 (pre.length : Int)) = some (outR (shift pre (rdU pre.length r)))
  | [], pre, h9, hn => by
    rw [loop_eq]
    simp only [spliceref01_Reader_Num.step, spliceref01_Reader_Num.l1, spliceref01_Reader_Num.j1, List.append_nil, bs_size, Int.lt_irrefl, if_false, Bool.false_eq_true, if_true, bnd, stk]
    rfl
  | b :: r, pre, h9, hn => by
    have hlen : (pre ++ b :: r).length = pre.length + (r.length + 1) := by simp
    have hn' : pre.length + (r.length + 1) ≤ 1000000 := by simpa using hn
    have hi : pre.length < (pre ++ b :: r).length := by omega
    have hstep : (0 : Int) ≤ (pre.length : Int) ∧ (pre.length : Int) < ((pre ++ b :: r).length : Int) := by omega
    have hba : byteAt (bs (pre ++ b :: r)) (pre.length : Int) = (b.toNat : Int) := by rw [byteAt_bs _ hi, getD_mid]
    have w1 : IntKind.wrap .i64 ((pre.length : Int) + 1) = ((pre.length + 1 : Nat) : Int) := wr1 hi (by omega)
    rw [loop_eq]
    simp only [spliceref01_Reader_Num.step, spliceref01_Reader_Num.l1, bs_size, hstep.2, if_true, hstep, and_self, hba]
    have bad : stk (spliceref01_Reader_Num.j2 (pre.length : Int) true) (goLoop (spliceref01_Reader_Num.step ⟨bs (pre ++ b :: r), 0⟩)) = some (outR (.bad 3)) := by
      simp only [spliceref01_Reader_Num.j2, if_true, bnd, stk]
      rfl
    by_cases e9 : pre.length = 9
    · rw [if_neg (by omega)]
      simp only [spliceref01_Reader_Num.j1, Bool.false_eq_true, if_false, bs_size]
      rw [if_neg (by omega), if_pos (by omega), bad, rdU, if_pos (.inl e9)]
      rfl
    · rw [if_pos (by omega)]
      by_cases h128 : b.toNat < 128
      · rw [decide_eq_false (by omega)]
        simp only [spliceref01_Reader_Num.j1, Bool.false_eq_true, if_false, bs_size]
        rw [if_neg (by omega), if_neg (by omega)]
        by_cases e0 : 0 < pre.length ∧ b.toNat = 0
        · rw [if_pos (by omega), if_pos hstep, hba, show (((b.toNat : Int)) == 0) = true by rw [e0.2]; rfl, bad, rdU, if_pos (.inr e0)]
          rfl
        · have hj : stk (spliceref01_Reader_Num.j2 (pre.length : Int) false) (goLoop (spliceref01_Reader_Num.step ⟨bs (pre ++ b :: r), 0⟩)) = some (outR (shift pre (rdU pre.length (b :: r)))) := by
            simp only [spliceref01_Reader_Num.j2, Bool.false_eq_true, if_false, stk]
            have := ref_back pre r b (by omega) (by omega) (pre.length + 1) [] (by rw [List.append_nil, List.take_of_length_le (by simp)]) (Nat.le_refl _)
            simp only [val] at this
            rw [show ((pre.length + 1 : Nat) : Int) - 1 = (pre.length : Int) by omega] at this
            rw [show ((0 : Nat) : Int) = 0 from rfl] at this
            rw [this, rdU, if_neg (by omega), if_pos h128, val_snoc, Nat.mod_eq_of_lt h128]
            rfl
          by_cases hp0 : pre.length = 0
          · rw [if_neg (by omega)]; exact hj
          · rw [if_pos (by omega), if_pos hstep, hba, show (((b.toNat : Int)) == 0) = false by rw [beq_eq_false_iff_ne]; omega]; exact hj
      · rw [decide_eq_true (by omega)]
        simp only [spliceref01_Reader_Num.j1, if_true, w1, stk]
        rw [shift_snoc e9 (by omega)]
        have := ref_Num_loop r (pre ++ [b]) (by simp; omega) (by simp; omega)
        rw [List.append_assoc] at this
        simpa using this

/-! ### Readers -/
abbrev Rd := List UInt8 × Int
def toV (s : Rd) : vint_Reader := ⟨bs s.1, s.2⟩
def toD (s : Rd) : spliceref01_Reader := ⟨bs s.1, s.2⟩
def rdN (s : Rd) : Int × Rd := if s.2 = 0 then match rdU 0 s.1 with
    | .ok n q => ((n : Int), (q, 0))
    | .bad e => (0, ([], e))
  else (0, s)
theorem rdN_vint (s : Rd) (hn : s.1.length ≤ 1000000) : vint_Reader_Num (toV s) = some ((rdN s).1, toV (rdN s).2) := by
  obtain ⟨l, e⟩ := s
  unfold vint_Reader_Num vint_Reader_Err rdN toV
  by_cases h : e = 0
  · subst h
    rw [if_pos rfl, if_pos rfl]
    have := vint_Num_loop l [] (fun b h => by cases h) (by simp) (by simpa using hn)
    rw [shift_nil] at this
    refine this.trans ?_
    simp only [List.length_nil]
    cases rdU 0 l <;> rfl
  · rw [if_neg h, if_neg h]
theorem rdN_ref (s : Rd) (hn : s.1.length ≤ 1000000) : spliceref01_Reader_Num (toD s) = some (toD (rdN s).2, (rdN s).1) := by
  obtain ⟨l, e⟩ := s
  unfold spliceref01_Reader_Num rdN toD
  by_cases h : e = 0
  · subst h
    rw [if_pos rfl, if_pos rfl]
    have := ref_Num_loop l [] (by simp) (by simpa using hn)
    rw [shift_nil] at this
    refine this.trans ?_
    simp only [List.length_nil]
    cases rdU 0 l <;> rfl
  · rw [if_neg h, if_neg h]
theorem rdN_bound (s : Rd) : 0 ≤ (rdN s).1 ∧ (rdN s).1 < 9223372036854775808 := by
  unfold rdN
  by_cases h : s.2 = 0
  · rw [if_pos h]
    cases hr : rdU 0 s.1 with
    | bad e => simp
    | ok n q =>
      have := (rdU_lt (by omega) hr).1
      have e : 128 ^ (9 - 0) = 9223372036854775808 := by decide
      simp only
      omega
  · rw [if_neg h]; simp
theorem rdN_len (s : Rd) : (rdN s).2.1.length ≤ s.1.length := by
  unfold rdN
  by_cases h : s.2 = 0
  · rw [if_pos h]
    cases hr : rdU 0 s.1 with
    | bad e => simp
    | ok n q => exact Nat.le_of_lt (rdU_lt (by omega) hr).2
  · rw [if_neg h]; exact Nat.le_refl _
theorem rdN_less (s : Rd) (h : (rdN s).2.2 = 0) : (rdN s).2.1.length < s.1.length := by
  unfold rdN at h ⊢
  by_cases h0 : s.2 = 0
  · rw [if_pos h0] at h ⊢
    cases hr : rdU 0 s.1 with
    | bad e =>
      rw [hr] at h
      simp only at h
      subst h
      exfalso
      have nb : ∀ (l : List UInt8) (k : Nat), rdU k l ≠ .bad 0 := by
        intro l
        induction l with
        | nil => intro k h; simp [rdU] at h
        | cons b r ih =>
          intro k h
          rw [rdU] at h
          split at h
          · simp at h
          · split at h
            · cases h
            · split at h
              · cases h
              · rename_i e he
                injection h with h
                subst h
                exact ih _ he
      exact nb _ _ hr
    | ok n q => exact (rdU_lt (by omega) hr).2
  · rw [if_neg h0] at h; exact absurd h h0
/-- A whole number, of the number that was read. -/
def zag (n : Int) : Int := if n % 2 = 1 then -(n / 2) - 1 else n / 2
def rdW (s : Rd) : Int × Rd := (zag (rdN s).1, (rdN s).2)
theorem rdW_vint (s : Rd) (hn : s.1.length ≤ 1000000) : vint_Reader_Whole (toV s) = some ((rdW s).1, toV (rdW s).2) := by
  unfold vint_Reader_Whole
  rw [rdN_vint s hn]
  have hb := rdN_bound s
  simp only [Option.bind_some, bnd, rdW, zag]
  generalize (rdN s).1 = n at hb
  rw [bAnd1 hb.1 hb.2, Int.fdiv_eq_ediv_of_nonneg _ (by omega)]
  split
  · rw [wr (n := 0 - n / 2) (by omega), wr (by omega)]
    congr 2
    omega
  · rfl
theorem rdW_ref (s : Rd) (hn : s.1.length ≤ 1000000) : spliceref01_Reader_Whole (toD s) = some (toD (rdW s).2, (rdW s).1) := by
  unfold spliceref01_Reader_Whole
  rw [rdN_ref s hn]
  have hb := rdN_bound s
  simp only [Option.bind_some, bnd, rdW, zag]
  generalize (rdN s).1 = n at hb
  rw [Int.tmod_eq_emod_of_nonneg (by omega), Int.tdiv_eq_ediv_of_nonneg (by omega), wr (n := n / 2) (by omega)]
  split
  · rw [wr (n := 0 - n / 2) (by omega), wr (by omega)]
    congr 2
    omega
  · rfl
def rdEnd (s : Rd) : Int := if s.2 = 0 then (if s.1 = [] then 0 else 2) else s.2
theorem rdEnd_vint (s : Rd) : vint_Reader_End (toV s) = rdEnd s := by
  obtain ⟨l, e⟩ := s
  unfold vint_Reader_End vint_Reader_End.j1 vint_Reader_Err rdEnd toV
  by_cases h : e = 0
  · subst h
    simp only [if_true, bs_nil, toList_bs]
    cases l <;> simp
  · simp [h]
theorem rdEnd_ref (s : Rd) : spliceref01_Reader_End (toD s) = rdEnd s := by
  obtain ⟨l, e⟩ := s
  unfold spliceref01_Reader_End spliceref01_Reader_End.j1 rdEnd toD
  by_cases h : e = 0
  · subst h
    simp only [if_true, bs_nil, toList_bs]
    cases l <;> simp
  · simp [h]

/-! ### There and back -/
theorem ofNat_toNat {n : Nat} (h : n < 256) : (UInt8.ofNat n).toNat = n := by simp; omega
theorem rdU_numU : ∀ (k' k n : Nat) (r : List UInt8), k + k' = 9 → n < 128 ^ k' → (0 < k → n ≠ 0) → rdU k (numU n ++ r) = .ok n r
  | 0, k, n, r, hk, hn, h0 => by
    exfalso
    have : n = 0 := by simpa using hn
    exact h0 (by omega) this
  | k' + 1, k, n, r, hk, hn, h0 => by
    by_cases h : n < 128
    · rw [numU_small h, List.singleton_append, rdU, ofNat_toNat (by omega), if_neg (by omega), if_pos h]
    · rw [numU_big h, List.cons_append, rdU, ofNat_toNat (by omega), if_neg (by omega), if_neg (by omega)]
      rw [rdU_numU k' (k + 1) (n / 128) r (by omega) (by rw [Nat.div_lt_iff_lt_mul (by omega)]; rw [Nat.pow_succ] at hn; exact hn) (by omega)]
      have e : n % 128 + 128 - 128 + 128 * (n / 128) = n := by omega
      simp only [e]
theorem numU_rdU : ∀ (l : List UInt8) (k n : Nat) (q : List UInt8), rdU k l = .ok n q → l = numU n ++ q ∧ (0 < k → n ≠ 0)
  | [], k, n, q, h => by simp [rdU] at h
  | b :: r, k, n, q, h => by
    rw [rdU] at h
    by_cases h1 : k = 9 ∨ (0 < k ∧ b.toNat = 0)
    · rw [if_pos h1] at h; cases h
    · rw [if_neg h1] at h
      by_cases h2 : b.toNat < 128
      · rw [if_pos h2] at h
        injection h with e1 e2
        subst e1; subst e2
        rw [numU_small h2]
        exact ⟨by simp, by omega⟩
      · rw [if_neg h2] at h
        have hb := b.toNat_lt
        cases hr : rdU (k + 1) r with
        | bad e => rw [hr] at h; cases h
        | ok n' q' =>
          rw [hr] at h
          injection h with e1 e2
          subst e2
          obtain ⟨h3, h4⟩ := numU_rdU r (k + 1) n' q' hr
          have := h4 (by omega)
          rw [numU_big (by omega), ← e1, show (b.toNat - 128 + 128 * n') / 128 = n' by omega, show (b.toNat - 128 + 128 * n') % 128 + 128 = b.toNat by omega]
          exact ⟨by rw [List.cons_append, ← h3]; simp, by omega⟩
theorem rdN_num {v : Int} (h0 : 0 ≤ v) (h : v < 9223372036854775808) (r : List UInt8) : rdN (numT v ++ r, 0) = (v, (r, 0)) := by
  unfold rdN numT
  rw [if_pos rfl, if_neg (by omega)]
  have := rdU_numU 9 0 v.toNat r rfl (by have e : (128 : Nat) ^ 9 = 9223372036854775808 := by decide
                                         omega) (by omega)
  simp only [this]
  congr 1
  omega
theorem zag_zig (v : Int) : zag (zig v) = v := by unfold zag zig; split <;> split <;> omega
theorem zig_zag {n : Int} (h : 0 ≤ n) : zig (zag n) = n := by unfold zag zig; split <;> split <;> omega
theorem rdW_whole {v : Int} (h : -4611686018427387904 ≤ v ∧ v ≤ 4611686018427387903) (r : List UInt8) : rdW (wholeT v ++ r, 0) = (v, (r, 0)) := by
  have hb := zig_bound h
  unfold rdW wholeT
  rw [if_pos h, rdN_num hb.1 hb.2, zag_zig]
theorem num_rdN {s : Rd} (h : (rdN s).2.2 = 0) : s.2 = 0 ∧ s.1 = numT (rdN s).1 ++ (rdN s).2.1 := by
  have hl := rdN_less s h
  unfold rdN at h hl ⊢
  by_cases h0 : s.2 = 0
  · refine ⟨h0, ?_⟩
    rw [if_pos h0] at h hl ⊢
    cases hr : rdU 0 s.1 with
    | bad e =>
      exfalso
      rw [hr] at h hl
      simp only at h
      subst h
      simp only at hl
      cases hs : s.1 with
      | nil => rw [hs] at hr; simp [rdU] at hr
      | cons b r =>
        have nb : ∀ (l : List UInt8) (k : Nat), rdU k l ≠ .bad 0 := by
          intro l
          induction l with
          | nil => intro k h; simp [rdU] at h
          | cons b r ih =>
            intro k h
            rw [rdU] at h
            split at h
            · simp at h
            · split at h
              · cases h
              · split at h
                · cases h
                · rename_i e he
                  injection h with h
                  subst h
                  exact ih _ he
        exact nb _ _ hr
    | ok n q =>
      simp only
      have := (numU_rdU _ _ _ _ hr).1
      unfold numT
      rw [if_neg (by omega)]
      exact this
  · rw [if_neg h0] at h; exact absurd h h0
theorem whole_rdW {s : Rd} (h : (rdW s).2.2 = 0) : s.2 = 0 ∧ s.1 = wholeT (rdW s).1 ++ (rdW s).2.1 := by
  unfold rdW at h ⊢
  obtain ⟨h1, h2⟩ := num_rdN h
  refine ⟨h1, ?_⟩
  have hb := rdN_bound s
  have hz : -4611686018427387904 ≤ zag (rdN s).1 ∧ zag (rdN s).1 ≤ 4611686018427387903 := by
    unfold zag; split <;> omega
  unfold wholeT
  simp only
  rw [if_pos hz, zig_zag hb.1]
  exact h2
end Go.SyP
