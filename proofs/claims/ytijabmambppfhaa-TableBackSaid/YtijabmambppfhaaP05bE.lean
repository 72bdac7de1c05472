/- Tables: the document's answer. -/
import Derived.Test.YtijabmambppfhaaP05bD
set_option linter.unusedVariables false
set_option linter.unusedSimpArgs false
namespace Go.SyP
open Go Go.Sy Sets

theorem for_to {σ ρ α : Type} {step : σ → Option (σ ⊕ ρ)} {n : Nat} (st : Nat → α → σ) (I : Nat → α → Prop)
    (hstep : ∀ i x, i < n → I i x → ∃ y, step (st i x) = some (.inl (st (i + 1) y)) ∧ I (i + 1) y) : ∀ i x, i ≤ n → I i x → ∃ y, goLoop step (st i x) = goLoop step (st n y) ∧ I n y := by
  have key : ∀ m i x, i + m = n → I i x → ∃ y, goLoop step (st i x) = goLoop step (st n y) ∧ I n y := by
    intro m
    induction m with
    | zero =>
      intro i x hi hI
      obtain rfl : i = n := by omega
      exact ⟨x, rfl, hI⟩
    | succ m ih =>
      intro i x hi hI
      obtain ⟨y, h1, h2⟩ := hstep i x (by omega) hI
      obtain ⟨z, h3, h4⟩ := ih (i + 1) y (by omega) h2
      exact ⟨z, by rw [loop_eq, h1]; exact h3, h4⟩
  exact fun i x h => key (n - i) i x (by omega)

/-! ### Which mutations may be -/
/-! ### What is touched, and what becomes of it -/
def touB (m : api_Mut) (k : Int) : Bool := if m.Kind = 2 then decide (m.Over.Lo ≤ k) && decide (k < m.Over.Hi) else (look m.Pairs k).isSome
def within (v : Int) : Int := if v > 1099511627776 then 1099511627776 else if v < -1099511627776 then -1099511627776 else v
theorem within_bound (v : Int) : -1099511627776 ≤ within v ∧ within v ≤ 1099511627776 := by
  unfold within
  split
  · omega
  · split <;> omega
/-- What a mutation makes of the cell of a key that it touches; none: it fails. -/
def cellO (m : api_Mut) (k : Int) (c : Option Int) : Option (Option Int) :=
  if m.Kind = 2 then some none
  else if m.Kind = 3 then (if c.getD 0 + (m.Pairs.getD 0 api_Pair.z).Val < 0 ∨ c.getD 0 + (m.Pairs.getD 0 api_Pair.z).Val > 1099511627776 then none else some (some (c.getD 0 + (m.Pairs.getD 0 api_Pair.z).Val)))
  else if m.Kind = 4 then (if c.getD 1099511627777 = m.Old then some (some (m.Pairs.getD 0 api_Pair.z).Val) else none)
  else if m.Kind = 5 then (if k = (m.Pairs.getD 0 api_Pair.z).Key then some (some (within (c.getD 0 - (m.Pairs.getD 0 api_Pair.z).Val))) else some (some (within (c.getD 0 + (m.Pairs.getD 0 api_Pair.z).Val))))
  else some (match look m.Pairs k with | some v => some v | none => c)
/-- What a mutation that may be is. -/
structure MutIs (m : api_Mut) : Prop where
  ok : ∀ x ∈ m.Pairs, okP x
  len : m.Pairs.length ≤ 8
  del : m.Kind = 2 → m.Pairs = []
  put : m.Kind = 1 → Up m.Pairs
  one : m.Kind = 3 ∨ m.Kind = 4 → ∃ p, m.Pairs = [p]
  two : m.Kind = 5 → ∃ p q, m.Pairs = [p, q] ∧ p.Key ≠ q.Key ∧ p.Val = q.Val
  kind : m.Kind = 1 ∨ m.Kind = 2 ∨ m.Kind = 3 ∨ m.Kind = 4 ∨ m.Kind = 5
  over : m.Kind = 2 → Ok (pa m.Over)
theorem mutIs {m : api_Mut} (h : mOk m = true) : MutIs m := by
  unfold mOk at h
  simp only [Bool.and_eq_true, decide_eq_true_eq] at h
  have hk := h.2
  clear h
  unfold kindB at hk
  have hp : ∀ {lo hi}, prsN m.Pairs lo hi = true → (∀ x ∈ m.Pairs, okP x) ∧ lo ≤ (m.Pairs.length : Int) ∧ (m.Pairs.length : Int) ≤ hi := fun h => by
    have h2 := prsN_len h
    unfold prsN at h
    simp only [Bool.and_eq_true] at h
    exact ⟨prs_iff.1 h.2, h2⟩
  by_cases k2 : m.Kind = 2
  · rw [if_pos k2] at hk
    simp only [Bool.and_eq_true, decide_eq_true_eq] at hk
    have e := List.length_eq_zero_iff.1 hk.1.1
    exact ⟨by simp [e], by simp [e], fun _ => e, fun h => by omega, fun h => by omega, fun h => by omega, by omega, fun _ => hk.2⟩
  · rw [if_neg k2] at hk
    simp only [Bool.and_eq_true, decide_eq_true_eq] at hk
    have hk := hk.2
    by_cases k4 : m.Kind = 4
    · rw [if_pos k4] at hk
      simp only [Bool.and_eq_true] at hk
      have h := hp hk.1
      have : ∃ p, m.Pairs = [p] := List.length_eq_one_iff.1 (by omega)
      exact ⟨h.1, by omega, fun h => by omega, fun h => by omega, fun _ => this, fun h => by omega, by omega, fun h => by omega⟩
    · rw [if_neg k4] at hk
      simp only [Bool.and_eq_true, decide_eq_true_eq] at hk
      have hk := hk.2
      by_cases k1 : m.Kind = 1
      · rw [if_pos k1] at hk
        simp only [Bool.and_eq_true, decide_eq_true_eq] at hk
        have h := hp hk.1
        exact ⟨h.1, by omega, fun h => by omega, fun _ => hk.2, fun h => by omega, fun h => by omega, by omega, fun h => by omega⟩
      · rw [if_neg k1] at hk
        by_cases k3 : m.Kind = 3
        · rw [if_pos k3] at hk
          have h := hp hk
          have : ∃ p, m.Pairs = [p] := List.length_eq_one_iff.1 (by omega)
          exact ⟨h.1, by omega, fun h => by omega, fun h => by omega, fun _ => this, fun h => by omega, by omega, fun h => by omega⟩
        · rw [if_neg k3] at hk
          by_cases k5 : m.Kind = 5
          · rw [if_pos k5] at hk
            simp only [Bool.and_eq_true, decide_eq_true_eq] at hk
            have h := hp hk.1
            refine ⟨h.1, by omega, fun h => by omega, fun h => by omega, fun h => by omega, fun _ => ?_, by omega, fun h => by omega⟩
            match hm : m.Pairs, h.2 with
            | [p, q], _ =>
              rw [hm] at hk
              exact ⟨p, q, rfl, hk.2.1, hk.2.2.1⟩
            | [], h => simp at h
            | [p], h => simp at h
            | p :: q :: r :: l, h => simp at h; omega
          · rw [if_neg k5] at hk
            cases hk

end Go.SyP
