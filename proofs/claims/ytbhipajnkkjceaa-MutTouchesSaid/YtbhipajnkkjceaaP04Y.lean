/- The laws of mutations: touches, stamps, near. -/
import Derived.Test.YtbhipajnkkjceaaP04K
import Derived.Test.YtbhipajnkkjceaaP04W
set_option linter.unusedVariables false
set_option linter.unusedSimpArgs false
namespace Go.SyP
open Go Go.Sy Sets

/-! ### Touches -/
theorem ref_Touch_eq {m : api_Mut} (h : mOk m = true) : ∃ T, mut_Touch m = some T ∧ SOk T ∧ (∀ k, mem (T.map pa) k ↔ touB m k = true) ∧ spliceref04_Touch (trM m) = some (T.map toR) := by
  obtain ⟨T, h1, h2, h3⟩ := mut_Touch_eq h
  refine ⟨T, h1, h2, h3, ?_⟩
  have hm := mutIs h
  have hl := hm.len
  unfold spliceref04_Touch
  rw [ref_Check_eq m (by omega), Option.bind_some, if_pos h]
  by_cases k2 : m.Kind = 2
  · rw [if_pos (show (trM m).Kind = 2 from k2)]
    congr 1
    have hT : T = [m.Over] := by
      refine pa_inj (Canon.unique h2.1 (SOk_one (hm.over k2)).1 fun k => (h3 k).trans ?_)
      unfold touB
      rw [if_pos k2]
      simp only [List.map_cons, List.map_nil, mem_cons, Bool.and_eq_true, decide_eq_true_eq]
      constructor
      · exact fun h => .inl h
      · rintro (h | h)
        · exact h
        · exact absurd h mem_nil
    rw [hT]
    rfl
  · rw [if_neg (show ¬ (trM m).Kind = 2 from k2)]
    let S : List api_Span := m.Pairs.map fun p => ⟨p.Key, p.Key + 1⟩
    have hS : Good S := fun x hx => by
      obtain ⟨p, hp, rfl⟩ := List.mem_map.1 hx
      have := hm.ok p hp
      exact ⟨this.1, by show p.Key < p.Key + 1; omega, by show p.Key + 1 ≤ 4096; have := this.2.1; omega⟩
    have hmem : ∀ k, mem (S.map pa) k ↔ touB m k = true := fun k => by
      unfold touB
      rw [if_neg k2]
      constructor
      · rintro ⟨x, hx, h1, h2⟩
        obtain ⟨y, hy, rfl⟩ := List.mem_map.1 hx
        obtain ⟨p, hp, rfl⟩ := List.mem_map.1 hy
        have : p.Key = k := by simp only [pa] at h1 h2; omega
        subst this
        cases hq : look m.Pairs p.Key with
        | some v => rfl
        | none => exact absurd rfl (look_isNone hq p hp)
      · intro hq
        cases hl : look m.Pairs k with
        | none => rw [hl] at hq; cases hq
        | some v =>
          have := look_mem hl
          exact ⟨(k, k + 1), List.mem_map.2 ⟨⟨k, k + 1⟩, List.mem_map.2 ⟨_, this, rfl⟩, rfl⟩, Int.le_refl _, by show k < k + 1; omega⟩
    have hmk := (ref_Make_eq S (by simp [S]; omega)).2 hS
    obtain ⟨L, c1, c2, c3⟩ := hmk
    have hLT : L = T.map toR := by
      refine pr_inj (Canon.unique c1 (by rw [pr_toR]; exact h2.1) fun k => ?_)
      refine (c2 k).trans ?_
      show mem (S.map pa) k ↔ _
      rw [pr_toR, hmem, h3]
    have hTl : (T.map toR).length ≤ 64 := by rw [List.length_map]; exact h2.2
    rw [hLT, if_neg (by omega)] at c3
    have q4 : (trM m).Pairs = m.Pairs.map tr := rfl
    obtain ⟨r, e1, e2⟩ : ∃ r, goLoop (spliceref04_Touch.step (trM m)) (.l1 0 []) = some r ∧ r = T.map toR := by
      refine for_post (n := m.Pairs.length) (fun i x => spliceref04_Touch.S.l1 (i : Int) x) (fun i x => x = ((m.Pairs.take i).map fun p => (⟨p.Key, p.Key + 1⟩ : spliceref03_Span))) _ ?_ ?_ 0 [] (Nat.zero_le _) rfl
      · rintro x rfl
        rw [take_all (Nat.le_refl _)]
        simp only [spliceref04_Touch.step, spliceref04_Touch.l1, q4, List.length_map, Int.lt_irrefl, if_false]
        have e : m.Pairs.map (fun p => (⟨p.Key, p.Key + 1⟩ : spliceref03_Span)) = S.map toR := by
          simp only [S, List.map_map]
          rfl
        rw [e, c3]
        exact ⟨_, rfl, rfl⟩
      · rintro i x hi rfl
        left
        have hstep : (0 : Int) ≤ (i : Int) ∧ (i : Int) < (m.Pairs.length : Int) := by omega
        have hok := hm.ok _ (getD_in5 (z := api_Pair.z) hi)
        have hx := take_at (l := m.Pairs) (z := api_Pair.z) hi
        have ht := tr_at m.Pairs hi
        simp only [spliceref04_Touch.step, spliceref04_Touch.l1, q4, List.length_map, hstep.2, if_true, hstep, and_self, wr1 hi (by omega : m.Pairs.length ≤ 9223372036854775807)]
        rw [ht, show (i : Int).toNat = i from rfl] at *
        generalize m.Pairs.getD i api_Pair.z = X at hok hx ⊢
        have r1 : (tr X).Key = X.Key := rfl
        rw [r1, if_pos (by rw [List.length_take]; omega), wr (by have := hok.1; have := hok.2.1; omega), hx, List.map_append]
        exact ⟨_, rfl, rfl⟩
    rw [e1, e2]

theorem splicelaw04_MutTouches_true (a : api_Mut) (k : Int) : splicelaw04_MutTouches a k = some true := by
  unfold splicelaw04_MutTouches
  rw [few4]
  by_cases h : a.Pairs.length ≤ 100
  · rw [if_pos (decide_eq_true h)]
    by_cases ha : mOk a = true
    · obtain ⟨T, t1, t2, t3, t4⟩ := ref_Touch_eq ha
      have hTl := t2.2
      obtain ⟨r, c1, c2⟩ := chkS T (by omega)
      have hr := c2.2 t2
      subst hr
      have hb : hasB T k = touB a k := by rw [Bool.eq_iff_iff, hasB_iff t2, t3]
      have rest : splicelaw04_MutTouches.j2 a T false = some true := by
        unfold splicelaw04_MutTouches.j2
        rw [if_neg (by decide), awake4, Option.bind_some, if_pos rfl, Refs_eq T (by omega), Option.bind_some, RefM_eq a (by omega), Option.bind_some, t4, Option.bind_some]
        obtain ⟨s, e1, e2⟩ := Same_eq (T.map toR) (T.map toR) (by rw [List.length_map]; omega)
        rw [e1, Option.bind_some, e2.2 rfl]
        rfl
      -- a mutation that stands alone touches one key
      have alone : (((mut_Alone a).bind fun v => if v = true then (span_Count T).bind fun v11 => splicelaw04_MutTouches.j2 a T (v11 != 1) else splicelaw04_MutTouches.j2 a T false)) = some true := by
        rw [alone_eq a (by omega), Option.bind_some]
        by_cases hal : (mOk a && (decide (a.Kind = 3) || decide (a.Kind = 4))) = true
        · rw [if_pos hal]
          simp only [Bool.and_eq_true, Bool.or_eq_true, decide_eq_true_eq] at hal
          obtain ⟨p, hp⟩ := (mutIs ha).one hal.2
          have hpo := (mutIs ha).ok p (by rw [hp]; simp)
          have hok : Sets.Ok (p.Key, p.Key + 1) := ⟨hpo.1, by show p.Key < p.Key + 1; omega, by show p.Key + 1 ≤ 4096; have := hpo.2.1; omega⟩
          have hT : T = [⟨p.Key, p.Key + 1⟩] := by
            refine pa_inj (Canon.unique t2.1 (SOk_one (x := ⟨p.Key, p.Key + 1⟩) hok).1 fun j => (t3 j).trans ?_)
            unfold touB
            rw [if_neg (by omega), hp]
            simp only [look, List.map_cons, List.map_nil, mem_cons, pa]
            by_cases hj : p.Key = j
            · subst hj; simp; exact .inl (by omega)
            · rw [if_neg hj]
              simp
              exact ⟨by omega, mem_nil⟩
          rw [count_eq (show Set' T from t2), Option.bind_some, hT]
          have : (size (List.map pa [(⟨p.Key, p.Key + 1⟩ : api_Span)]) != 1) = false := by
            simp [size, pa]
            omega
          rw [this, ← hT]
          exact rest
        · rw [if_neg hal]
          exact rest
      rw [t1, Option.bind_some, RefM_eq a (by omega), Option.bind_some, ref_Check_eq a (by omega), Option.bind_some, if_pos ha, c1, Option.bind_some, if_pos rfl, has_eq T (by omega), Option.bind_some, Option.bind_some, touches_eq a k (by omega), Option.bind_some, hb]
      by_cases hk : touB a k = true
      · rw [if_pos hk, if_pos hk]
        exact alone
      · rw [if_neg hk, if_neg hk]
        exact alone
    · have t1 : mut_Touch a = some [] := by
        unfold mut_Touch
        rw [mut_Check_eq a (by omega), Option.bind_some, if_neg ha]
      rw [t1, Option.bind_some, RefM_eq a (by omega), Option.bind_some, ref_Check_eq a (by omega), Option.bind_some, if_neg ha, awake4, Option.bind_some, if_pos rfl]
      rfl
  · rw [if_neg (by simpa using h)]
    exact out4
end Go.SyP
