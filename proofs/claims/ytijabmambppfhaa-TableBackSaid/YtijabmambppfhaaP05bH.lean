/- The first laws of table are true of the plain functions. -/
import Derived.Test.YtijabmambppfhaaP05bG
set_option linter.unusedVariables false
set_option linter.unusedSimpArgs false
namespace Go.SyP
open Go Go.Sy Sets

theorem few5_eq (a : List api_Pair) (m : api_Mut) (on : List api_Span) : splicelaw05_few a m on = (decide (a.length ≤ 200) && decide (m.Pairs.length ≤ 100) && decide (on.length ≤ 100)) := by
  unfold splicelaw05_few splicelaw05_few.j1
  by_cases h1 : a.length ≤ 200
  · rw [if_pos (by omega), decide_eq_true h1]
    by_cases h2 : m.Pairs.length ≤ 100
    · rw [if_pos (by omega), decide_eq_true h2]
      have : ((on.length : Int) ≤ 100) = (on.length ≤ 100) := by
        apply propext
        omega
      simp only [this]
      rfl
    · rw [if_neg (by omega), decide_eq_false h2]
      rfl
  · rw [if_neg (by omega), decide_eq_false h1]
    rfl
theorem few5_cases (a : List api_Pair) (m : api_Mut) (on : List api_Span) : (splicelaw05_few a m on = true ∧ a.length ≤ 200 ∧ m.Pairs.length ≤ 100 ∧ on.length ≤ 100) ∨ splicelaw05_few a m on = false := by
  rw [few5_eq]
  cases h : (decide (a.length ≤ 200) && decide (m.Pairs.length ≤ 100) && decide (on.length ≤ 100)) with
  | false => exact .inr rfl
  | true =>
    simp only [Bool.and_eq_true, decide_eq_true_eq] at h
    exact .inl ⟨rfl, h.1.1, h.1.2, h.2⟩

theorem SOk_one {x : api_Span} (h : Ok (pa x)) : SOk [x] := ⟨⟨fun y hy => by simp at hy; subst hy; exact h, by simp⟩, by simp⟩
theorem hasB_one {x : api_Span} (h : Ok (pa x)) (k : Int) : hasB [x] k = (decide (x.Lo ≤ k) && decide (k < x.Hi)) := by
  unfold hasB
  simp only [List.map_cons, List.map_nil, List.any_cons, List.any_nil, decide_eq_true h, Bool.true_and, Bool.or_false]
  rfl
def allS : List api_Span := [⟨0, 4096⟩]
theorem allS_ok : SOk allS := SOk_one (by decide)
theorem hasB_all {k : Int} (h : 0 ≤ k ∧ k < 4096) : hasB allS k = true := by
  rw [allS, hasB_one (by decide)]
  simp
  omega

/-- The result is known, if it is right for each key. -/
theorem Apply_is {l : List api_Pair} {m : api_Mut} {on : List api_Span} {r : List api_Pair × Bool} (hl : l.length ≤ 1000) (hpl : m.Pairs.length ≤ 1000) (ho : on.length ≤ 5000) (ht : Tb l) (hm : mOk m = true) (hs : SOk on) (h : ApplyTo l m on r) : table_Apply l m on = some r := by
  obtain ⟨s, e1, e2, _⟩ := table_Apply_eq l m on hl hpl ho ht hm hs
  rw [e1, e2.unique h]

theorem tb57 : Tb [⟨5, 7⟩] := ⟨fun x hx => by simp at hx; subst hx; decide, by simp [Up]⟩
theorem awake5 : splicelaw05_awake = some true := by
  have e1 : table_Apply [⟨5, 7⟩] ⟨1, 1, 3, [⟨5, 3⟩], ⟨0, 0⟩, 0⟩ [⟨0, 4096⟩] = some ([⟨5, 10⟩], true) :=
    Apply_is (by decide) (by decide) (by decide) tb57 (by decide) allS_ok ⟨fun _ => ⟨by simp [Up], fun j => by
      unfold stepK touB cellO
      by_cases hj : j = 5
      · subst hj
        rw [hasB_one (by decide)]
        simp [look]
      · simp [look, if_neg (show ¬ (5 : Int) = j from fun e => hj e.symm)]⟩, fun h => by cases h⟩
  have e2 : table_Apply [⟨5, 7⟩] ⟨1, 1, 5, [⟨5, 4⟩, ⟨9, 4⟩], ⟨0, 0⟩, 0⟩ [⟨9, 10⟩] = some ([⟨5, 7⟩, ⟨9, 4⟩], true) :=
    Apply_is (by decide) (by decide) (by decide) tb57 (by decide) (SOk_one (by decide)) ⟨fun _ => ⟨by simp [Up], fun j => by
      unfold stepK touB cellO
      rw [hasB_one (by decide)]
      by_cases hj : j = 5
      · subst hj
        simp [look]
      · by_cases hj9 : j = 9
        · subst hj9
          simp [look, within]
        · simp [look, if_neg (show ¬ (5 : Int) = j from fun e => hj e.symm), if_neg (show ¬ (9 : Int) = j from fun e => hj9 e.symm)]⟩, fun h => by cases h⟩
  unfold splicelaw05_awake
  rw [e1, Option.bind_some, e2, Option.bind_some]
  simp [splicelaw05_awake.j1]

theorem stay5 (j : Bool → Option Bool) (h : ∀ b, j b = some b) : ((splicelaw05_awake).bind fun v => some v) = some true := by rw [awake5]; rfl
theorem out5 : ((splicelaw05_awake).bind fun v => some v) = some true := by rw [awake5]; rfl

theorem touch_cell {m : api_Mut} (h : m.Kind = 1 ∨ m.Kind = 2) {j : Int} (ht : touB m j = true) (c d : Option Int) : cellO m j c = cellO m j d ∧ cellO m j c ≠ none := by
  unfold cellO
  unfold touB at ht
  rcases h with h | h
  · rw [h] at ht ⊢
    simp only [show ¬ (1 : Int) = 2 by decide, show ¬ (1 : Int) = 3 by decide, show ¬ (1 : Int) = 4 by decide, show ¬ (1 : Int) = 5 by decide, if_false] at ht ⊢
    cases hl : look m.Pairs j with
    | none => rw [hl] at ht; cases ht
    | some v => exact ⟨rfl, by simp⟩
  · rw [if_pos h, if_pos h]
    exact ⟨rfl, by simp⟩
theorem fail_alone {l : List api_Pair} {m : api_Mut} {on : List api_Span} {k : Int} (h : stepK l m on k = none) : m.Kind = 3 ∨ m.Kind = 4 := by
  unfold stepK at h
  split at h
  · unfold cellO at h
    by_cases k3 : m.Kind = 3
    · exact .inl k3
    · by_cases k4 : m.Kind = 4
      · exact .inr k4
      · rw [if_neg k3, if_neg k4] at h
        exfalso
        split at h
        · cases h
        · split at h
          · split at h <;> cases h
          · cases h
  · cases h

theorem hasB_key {k j : Int} (h : 0 ≤ k ∧ k < 4096) : hasB [⟨k, k + 1⟩] j = decide (j = k) := by
  rw [hasB_one (x := ⟨k, k + 1⟩) (show Ok (k, k + 1) from ⟨h.1, by omega, by omega⟩), Bool.eq_iff_iff]
  simp only [Bool.and_eq_true, decide_eq_true_eq]
  omega

end Go.SyP
