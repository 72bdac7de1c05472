/- What a mutation makes of each key; the laws of parts of tables. -/
import Derived.Test.YticmlllaimjdcaaP15N
set_option linter.unusedVariables false
set_option linter.unusedSimpArgs false
namespace Go.SyP
open Go Go.Sy Sets

theorem nodup_len : ∀ (l m : List Int), l.Nodup → (∀ x ∈ l, x ∈ m) → l.length ≤ m.length
  | [], _, _, _ => by simp
  | x :: l, m, h, hs => by
    obtain ⟨h1, h2⟩ := List.nodup_cons.1 h
    have hx := hs x (List.mem_cons_self ..)
    have := nodup_len l (m.erase x) h2 fun y hy => (List.mem_erase_of_ne (fun e => h1 (by rw [← e]; exact hy))).2 (hs y (List.mem_cons_of_mem _ hy))
    rw [List.length_erase_of_mem hx] at this
    have : 0 < m.length := List.length_pos_of_mem hx
    simp only [List.length_cons]
    omega
def cellN (m : api_Mut) (k : Int) (c : Option Int) : Option Int := (cellO m k c).getD c
/-- What it fails on. -/
def failK (l : List api_Pair) (m : api_Mut) (on : List api_Span) (k : Int) : Prop := touB m k = true ∧ hasB on k = true ∧ cellO m k (look l k) = none
theorem failK_iff {l : List api_Pair} {m : api_Mut} {on : List api_Span} {k : Int} : stepK l m on k = none ↔ failK l m on k := by
  unfold stepK failK
  by_cases h : (touB m k && hasB on k) = true
  · rw [if_pos h]
    rw [Bool.and_eq_true] at h
    exact ⟨fun e => ⟨h.1, h.2, e⟩, fun e => e.2.2⟩
  · rw [if_neg h]
    rw [Bool.and_eq_true] at h
    exact ⟨fun e => (by cases e), fun e => absurd ⟨e.1, e.2.1⟩ h⟩
theorem done_iff {l : List api_Pair} {m : api_Mut} {on : List api_Span} {r : List api_Pair × Bool} (h : ApplyTo l m on r) : r.2 = true ↔ ∀ k, ¬ failK l m on k := by
  constructor
  · intro hr k hk
    have := (h.done hr).2 k
    rw [failK_iff.2 hk] at this
    cases this
  · intro hk
    cases hr : r.2 with
    | true => rfl
    | false =>
      obtain ⟨_, k, h1⟩ := h.fail hr
      exact absurd (failK_iff.1 h1) (hk k)
theorem fail_alone' {m : api_Mut} (hm : MutIs m) {k : Int} {c : Option Int} (h : cellO m k c = none) (ht : touB m k = true) : ∀ j, touB m j = true → j = k := by
  have hk : m.Kind = 3 ∨ m.Kind = 4 := by
    unfold cellO at h
    by_cases k3 : m.Kind = 3
    · exact .inl k3
    · by_cases k4 : m.Kind = 4
      · exact .inr k4
      · rw [if_neg k3, if_neg k4] at h
        exfalso
        split at h
        · cases h
        · split at h
          · split at h <;> cases h
          · cases h
  obtain ⟨p, hp⟩ := hm.one hk
  have key : ∀ j, touB m j = true → j = p.Key := fun j hj => by
    unfold touB at hj
    rw [if_neg (by omega), hp] at hj
    by_cases e : p.Key = j
    · exact e.symm
    · simp [look, e] at hj
  intro j hj
  rw [key j hj, key k ht]
theorem look_ap {l : List api_Pair} {m : api_Mut} {on : List api_Span} {r : List api_Pair × Bool} (h : ApplyTo l m on r) (hm : MutIs m) (k : Int) :
    look r.1 k = if (touB m k && hasB on k) = true then cellN m k (look l k) else look l k := by
  cases hr : r.2 with
  | true =>
    have := (h.done hr).2 k
    unfold stepK at this
    by_cases hc : (touB m k && hasB on k) = true
    · rw [if_pos hc] at this ⊢
      unfold cellN
      rw [this]
      rfl
    · rw [if_neg hc] at this ⊢
      injection this with this
      exact this.symm
  | false =>
    obtain ⟨e, j, hj⟩ := h.fail hr
    have hf := failK_iff.1 hj
    rw [e]
    by_cases hc : (touB m k && hasB on k) = true
    · rw [if_pos hc]
      rw [Bool.and_eq_true] at hc
      have : k = j := fail_alone' hm hf.2.2 hf.1 k hc.1
      subst this
      unfold cellN
      rw [hf.2.2]
      rfl
    · rw [if_neg hc]
theorem tou_range {m : api_Mut} (hm : MutIs m) {k : Int} (h : touB m k = true) : 0 ≤ k ∧ k < 4096 := by
  unfold touB at h
  by_cases k2 : m.Kind = 2
  · rw [if_pos k2] at h
    have := hm.over k2
    simp only [Bool.and_eq_true, decide_eq_true_eq] at h
    unfold Ok pa at this
    omega
  · rw [if_neg k2] at h
    cases hl : look m.Pairs k with
    | none => rw [hl] at h; cases h
    | some v =>
      have := hm.ok _ (look_mem hl)
      exact ⟨this.1, this.2.1⟩
theorem look_range {l : List api_Pair} (h : Tb l) {k : Int} (hk : ¬ (0 ≤ k ∧ k < 4096)) : look l k = none := by
  cases hl : look l k with
  | none => rfl
  | some v =>
    have := look_ok h hl
    omega

/-! ### The set of the keys that are touched -/
theorem hasB_mem {on : List api_Span} (h : SOk on) (k : Int) : hasB on k = true ↔ mem (on.map pa) k := hasB_iff h
theorem off_iff {a b : List api_Span} (ha : SOk a) (hb : SOk b) : (∃ k, mem (a.map pa) k ∧ mem (b.map pa) k) ↔ ∃ k, hasB a k = true ∧ hasB b k = true := by
  constructor <;> rintro ⟨k, h1, h2⟩ <;> exact ⟨k, by simpa [hasB_mem ha] using h1, by simpa [hasB_mem hb] using h2⟩

/-! ### The laws -/
theorem hasB_allS {k : Int} (h : 0 ≤ k ∧ k < 4096) : hasB [⟨0, 4096⟩] k = true := hasB_all h
theorem ap_all {l : List api_Pair} {m : api_Mut} {r : List api_Pair × Bool} (h : ApplyTo l m [⟨0, 4096⟩] r) (hm : MutIs m) (k : Int) : look r.1 k = if touB m k = true then cellN m k (look l k) else look l k := by
  rw [look_ap h hm]
  by_cases ht : touB m k = true
  · rw [if_pos ht, if_pos (by rw [ht, hasB_allS (tou_range hm ht)]; rfl)]
  · rw [if_neg ht, if_neg (by simp [ht])]

/-- All keys but those of a set. -/
theorem less_bad' {b : List api_Span} (hb : b.length ≤ 9223372036854775807) (h : ¬ SOk b) : span_Less [⟨0, 4096⟩] b = some ([], 1) := by
  obtain ⟨r, c1, c2⟩ := chkS [⟨0, 4096⟩] (by simp)
  obtain ⟨s, c3, c4⟩ := span_Check_eq b hb
  have hs : s = false := by
    cases hs : s with
    | false => rfl
    | true => exact absurd (c4.1 hs) h
  unfold span_Less
  rw [c1, Option.bind_some, if_pos (c2.2 allS_ok), c3, Option.bind_some, hs]
  rfl
theorem off_spec {on : List api_Span} (ho : on.length ≤ 9223372036854775807) : ∃ v, span_Less [⟨0, 4096⟩] on = some v ∧ (v.2 = 0 → SOk on ∧ SOk v.1 ∧ ∀ k, hasB v.1 k = (decide (0 ≤ k ∧ k < 4096) && !hasB on k)) := by
  by_cases hg : SOk on
  · rcases res_cases (less_good (a := [⟨0, 4096⟩]) (b := on) allS_ok hg) with ⟨L, h1, h2, h3⟩ | h3
    · refine ⟨_, h3, fun _ => ⟨hg, h1, fun k => ?_⟩⟩
      rw [Bool.eq_iff_iff, hasB_mem h1, h2, show (mem ([(⟨0, 4096⟩ : api_Span)].map pa) k ↔ hasB [⟨0, 4096⟩] k = true) from (hasB_mem allS_ok k).symm, ← hasB_mem hg]
      simp only [Bool.and_eq_true, decide_eq_true_eq, Bool.not_eq_true']
      constructor
      · rintro ⟨q1, q2⟩
        refine ⟨?_, by simpa using q2⟩
        have := (hasB_mem allS_ok k).1 q1
        exact allS_ok.1.bound this
      · rintro ⟨q1, q2⟩
        exact ⟨hasB_allS q1, by simp [q2]⟩
    · exact ⟨_, h3, fun h => by simp at h⟩
  · exact ⟨_, less_bad' ho hg, fun h => by simp at h⟩

end Go.SyP
