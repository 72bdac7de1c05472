/- Hold: what is handed in and answered shares nothing. -/
import Derived.Test.YtboaahlhgekbbaaP06F
import Derived.Test.YtboaahlhgekbbaaG06OP
set_option linter.unusedVariables false
set_option linter.unusedSimpArgs false
namespace Go.SyP
open Go Go.Sy

theorem RefMf_eq (m : api_Mut) (hn : m.Pairs.length ≤ 5000) : splicelaw04_Ref_f0 m = some (trM m) := by
  unfold splicelaw04_Ref_f0
  obtain ⟨r, h1, h2⟩ : ∃ r, goLoop (splicelaw04_Ref_f0.step m) (.l1 0 []) = some r ∧ r = trM m := by
    refine for_post (n := m.Pairs.length) (fun i x => splicelaw04_Ref_f0.S.l1 (i : Int) x) (fun i x => x = (m.Pairs.take i).map tr) _ ?_ ?_ 0 [] (Nat.zero_le _) (by simp)
    · intro x h
      rw [take_all (Nat.le_refl _)] at h
      exact ⟨_, by simp [splicelaw04_Ref_f0.step, splicelaw04_Ref_f0.l1]; rfl, by rw [h]; rfl⟩
    · intro i x hi h
      left
      have hstep : (0 : Int) ≤ (i : Int) ∧ (i : Int) < (m.Pairs.length : Int) := by omega
      have hl : x.length = i := by rw [h]; simp [Nat.min_eq_left (Nat.le_of_lt hi)]
      simp only [splicelaw04_Ref_f0.step, splicelaw04_Ref_f0.l1, hstep.2, if_true, hstep, and_self, hl, wr1 hi (by omega : m.Pairs.length ≤ 9223372036854775807)]
      rw [if_pos (by omega)]
      refine ⟨_, rfl, ?_⟩
      rw [take_atI (z := api_Pair.z) hi, List.map_append, h]
      rfl
  rw [h1, h2]

theorem Reff_eq (h : api_Held) (hp : h.M.Pairs.length ≤ 5000) : splicelaw06_Ref_f0 h = some (trH h) := by
  unfold splicelaw06_Ref_f0
  have e : splicelaw04_Ref_f0 (⟨h.M.Client, h.M.Seq, h.M.Kind, h.M.Pairs, h.M.Over, h.M.Old⟩ : api_Mut) = some (trM h.M) := RefMf_eq h.M hp
  rw [e, Option.bind_some]
  rfl

theorem splicelaw06_HoldOwn_true (a0 : api_Held) {p : Prop} (w0 : p) : splicelaw06_HoldOwn a0 = some true := by
  have hj : ∀ b, b = true → splicelaw06_HoldOwn.j1 a0 qNew b = some true := fun b hb => by
    unfold splicelaw06_HoldOwn.j1
    rw [if_pos hb, awake_eq]
    rfl
  unfold splicelaw06_HoldOwn
  simp only [bnd]
  rw [awake_eq, Option.bind_some, if_pos rfl]
  by_cases h0 : (a0.M.Pairs.length : Int) = 0
  · rw [if_pos h0]
    exact hj _ rfl
  · rw [if_neg h0]
    by_cases h20 : (a0.M.Pairs.length : Int) > 20
    · exact hj _ (decide_eq_true h20)
    · rw [decide_eq_false h20]
      unfold splicelaw06_HoldOwn.j1
      rw [if_neg (by decide), Ref_eq _ (by omega), Option.bind_some, qAdd_eq _ _ (by omega) (by decide), Option.bind_some]
      by_cases hc : mOk a0.M = true ∧ timedB a0.Time = true
      · rw [if_pos hc]
        have hput : ∃ q', qPut qNew a0 = (0, q') ∧ q'.l = [a0] := by
          unfold qPut
          split
          · rename_i x e
            cases e
          · rw [dif_pos (show a0.M.Pairs.length ≤ 1000000 by omega)]
            exact ⟨_, rfl, rfl⟩
        obtain ⟨q', e1, e2⟩ := hput
        rw [e1, if_pos rfl]
        have hf : qFindM q' a0.M.Client a0.M.Seq = some a0 := by
          unfold qFindM
          rw [e2]
          simp [finH, isK]
        have ha : qAllM q' = some a0 := by
          unfold qAllM
          rw [e2]
        simp only [hf, ha, Option.bind_some]
        have hr : splicelaw06_Ref_f0 (⟨(⟨a0.M.Client, a0.M.Seq, a0.M.Kind, a0.M.Pairs, a0.M.Over, a0.M.Old⟩ : api_Mut), a0.Time, a0.Final⟩ : api_Held) = some (trH a0) := Reff_eq a0 (by omega)
        have hs : spliceref06_SameOne (trH a0) (trH a0) = some true := SameOne_refl _ (by simp [trH, trM]; omega)
        rw [if_neg h0, if_pos (by omega), if_pos (by decide), hr, Option.bind_some, hs, Option.bind_some, if_pos rfl, if_pos (by omega), Option.bind_some, hs, Option.bind_some]
      · rw [if_neg hc, if_neg (show ¬ (1 : Int) = 0 by decide), mut_Check_eq _ (by omega), Option.bind_some]
        by_cases hm : mOk a0.M = true
        · rw [if_pos hm]
          by_cases ht : a0.Time < 0
          · rw [if_pos ht]
            rfl
          · rw [if_neg ht]
            have : a0.Time > 1099511627775 := by
              refine Classical.byContradiction fun hn => hc ⟨hm, ?_⟩
              unfold timedB
              simp only [Bool.and_eq_true, decide_eq_true_eq]
              omega
            rw [decide_eq_true this]
            rfl
        · rw [if_neg hm]
          rfl
end Go.SyP
