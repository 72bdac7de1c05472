/- The laws of mutations: stamps, near. -/
import Derived.Test.YtbhipajnkkjceaaP04W
set_option linter.unusedVariables false
set_option linter.unusedSimpArgs false
namespace Go.SyP
open Go Go.Sy Sets

theorem aheadS_dec (a b : api_Stamp) : aheadS a b ↔ (if a.Time = b.Time then (if a.Client = b.Client then a.Seq < b.Seq else a.Client < b.Client) else a.Time < b.Time) := by
  unfold aheadS
  split
  · split <;> omega
  · omega
theorem Ahead_of {a b : api_Stamp} (h : aheadS a b) : spliceref04_Ahead ⟨a.Time, a.Client, a.Seq⟩ ⟨b.Time, b.Client, b.Seq⟩ = true := by
  rw [aheadS_dec] at h
  unfold spliceref04_Ahead
  by_cases h1 : a.Time = b.Time
  · rw [if_pos h1] at h ⊢
    by_cases h2 : a.Client = b.Client
    · rw [if_pos h2] at h ⊢; exact decide_eq_true h
    · rw [if_neg h2] at h ⊢; exact decide_eq_true h
  · rw [if_neg h1] at h ⊢; exact decide_eq_true h
theorem Ahead_not {a b : api_Stamp} (h : ¬ aheadS a b) : spliceref04_Ahead ⟨a.Time, a.Client, a.Seq⟩ ⟨b.Time, b.Client, b.Seq⟩ = false := by
  rw [aheadS_dec] at h
  unfold spliceref04_Ahead
  by_cases h1 : a.Time = b.Time
  · rw [if_pos h1] at h ⊢
    by_cases h2 : a.Client = b.Client
    · rw [if_pos h2] at h ⊢; exact decide_eq_false h
    · rw [if_neg h2] at h ⊢; exact decide_eq_false h
  · rw [if_neg h1] at h ⊢; exact decide_eq_false h
theorem eqS (a b : api_Stamp) : ((a.Time == b.Time) && ((a.Client == b.Client) && (a.Seq == b.Seq))) = true ↔ a = b := by
  simp only [Bool.and_eq_true, beq_iff_eq]
  constructor
  · rintro ⟨h1, h2, h3⟩
    cases a; cases b
    simp only at h1 h2 h3
    rw [h1, h2, h3]
  · rintro rfl; exact ⟨rfl, rfl, rfl⟩
theorem splicelaw04_MutStamps_true (a b : api_Stamp) (m : api_Mut) : splicelaw04_MutStamps a b m = some true := by
  unfold splicelaw04_MutStamps
  rw [few4]
  have fin : splicelaw04_MutStamps.j1 a m false = some true := by
    unfold splicelaw04_MutStamps.j1
    rw [if_neg (by decide), awake4, Option.bind_some, if_pos rfl]
    simp [splicelaw04_MutStamps.j2, mut_Stamp]
  by_cases h : m.Pairs.length ≤ 100
  · rw [if_pos (decide_eq_true h), mut_Compare_eq, Option.bind_some]
    simp only [bnd]
    rcases cmpS_cases a b with ⟨e, g⟩ | ⟨e, g⟩ | ⟨e, g⟩
    · have h1 := aheadS_irrefl g
      have hne : ((a.Time == b.Time) && ((a.Client == b.Client) && (a.Seq == b.Seq))) = false := by
        cases hq : ((a.Time == b.Time) && ((a.Client == b.Client) && (a.Seq == b.Seq))) with
        | false => rfl
        | true => exact absurd ((eqS a b).1 hq) h1.2
      rw [e, if_pos rfl, Ahead_of g, if_pos rfl, if_neg (by decide), Ahead_not h1.1, if_neg (by decide), hne]
      exact fin
    · subst g
      have h1 : ¬ aheadS a a := fun h => (aheadS_irrefl h).2 rfl
      rw [e, if_neg (by decide), Ahead_not h1, if_neg (by decide), if_neg (by decide), if_neg (by decide), (eqS a a).2 rfl]
      exact fin
    · have h1 := aheadS_irrefl g
      have hne : ((a.Time == b.Time) && ((a.Client == b.Client) && (a.Seq == b.Seq))) = false := by
        cases hq : ((a.Time == b.Time) && ((a.Client == b.Client) && (a.Seq == b.Seq))) with
        | false => rfl
        | true => exact absurd ((eqS a b).1 hq).symm h1.2
      rw [e, if_neg (by decide), Ahead_not h1.1, if_neg (by decide), Ahead_of g, if_pos rfl, if_pos rfl, hne]
      exact fin
  · rw [if_neg (by simpa using h)]
    exact out4

theorem splicelaw04_MutNear_true (t : Int) (a b : api_Mut) : splicelaw04_MutNear t a b = some true := by
  unfold splicelaw04_MutNear
  simp only [few4]
  have stop : splicelaw04_MutNear.j1 t a b true = some true := by
    unfold splicelaw04_MutNear.j1
    rw [if_pos rfl]
    exact out4
  by_cases h : a.Pairs.length ≤ 100
  · rw [if_pos (decide_eq_true h)]
    by_cases h' : b.Pairs.length ≤ 100
    · rw [if_pos (decide_eq_true h')]
      by_cases t0 : t < 0
      · rw [if_pos t0]; exact stop
      · rw [if_neg t0]
        by_cases t1 : t ≥ 1099511627775
        · rw [decide_eq_true t1]; exact stop
        · rw [decide_eq_false t1]
          have later : cmpS ⟨t, a.Client, a.Seq⟩ ⟨t + 1, b.Client, b.Seq⟩ = -1 := by
            rcases cmpS_cases ⟨t, a.Client, a.Seq⟩ ⟨t + 1, b.Client, b.Seq⟩ with ⟨e, g⟩ | ⟨e, g⟩ | ⟨e, g⟩
            · exact e
            · exfalso
              have := congrArg api_Stamp.Time g
              simp only at this
              omega
            · exfalso
              unfold aheadS at g
              simp only at g
              omega
          have fin : ∀ v : Int, cmpS ⟨t, a.Client, a.Seq⟩ ⟨t, b.Client, b.Seq⟩ = v → splicelaw04_MutNear.j4 t a b v = some true := by
            intro v hv
            unfold splicelaw04_MutNear.j4 mut_Stamp
            simp only [mut_Compare_eq, awake4, Option.bind_some, if_true]
            rw [if_pos hv, wr (n := t + 1) (by omega), later]
            rfl
          have hc := cmpS_cases ⟨t, a.Client, a.Seq⟩ ⟨t, b.Client, b.Seq⟩
          unfold splicelaw04_MutNear.j1
          rw [if_neg (by decide)]
          unfold splicelaw04_MutNear.j2
          simp only
          unfold splicelaw04_MutNear.j3
          by_cases c1 : a.Client < b.Client
          · rw [if_pos c1, if_pos rfl]
            refine fin _ ?_
            rcases hc with ⟨e, g⟩ | ⟨e, g⟩ | ⟨e, g⟩
            · exact e
            · exfalso; have := congrArg api_Stamp.Client g; simp only at this; omega
            · exfalso; unfold aheadS at g; simp only at g; omega
          · rw [if_neg c1]
            by_cases c2 : a.Client = b.Client
            · rw [if_pos c2]
              by_cases c3 : a.Seq < b.Seq
              · rw [decide_eq_true c3, if_pos rfl]
                refine fin _ ?_
                rcases hc with ⟨e, g⟩ | ⟨e, g⟩ | ⟨e, g⟩
                · exact e
                · exfalso; have := congrArg api_Stamp.Seq g; simp only at this; omega
                · exfalso; unfold aheadS at g; simp only at g; omega
              · rw [decide_eq_false c3, if_neg (by decide), if_pos c2]
                by_cases c4 : a.Seq = b.Seq
                · rw [show (a.Seq != b.Seq) = false by simp [c4], if_neg (by decide)]
                  refine fin _ ?_
                  rcases hc with ⟨e, g⟩ | ⟨e, g⟩ | ⟨e, g⟩
                  · exfalso; unfold aheadS at g; simp only at g; omega
                  · exact e
                  · exfalso; unfold aheadS at g; simp only at g; omega
                · rw [show (a.Seq != b.Seq) = true by simp [c4], if_pos rfl]
                  refine fin _ ?_
                  rcases hc with ⟨e, g⟩ | ⟨e, g⟩ | ⟨e, g⟩
                  · exfalso; unfold aheadS at g; simp only at g; omega
                  · exfalso; have := congrArg api_Stamp.Seq g; simp only at this; omega
                  · exact e
            · rw [if_neg c2, if_neg (by decide), if_neg c2, if_pos rfl]
              refine fin _ ?_
              rcases hc with ⟨e, g⟩ | ⟨e, g⟩ | ⟨e, g⟩
              · exfalso; unfold aheadS at g; simp only at g; omega
              · exfalso; have := congrArg api_Stamp.Client g; simp only at this; omega
              · exact e
    · rw [if_neg (by simpa using h')]
      exact stop
  · rw [if_neg (by simpa using h)]
    exact stop
end Go.SyP
