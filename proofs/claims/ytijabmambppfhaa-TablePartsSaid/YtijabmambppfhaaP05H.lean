/- The first laws of table are true of the plain functions. -/
import Derived.Test.YtijabmambppfhaaP05G
set_option linter.unusedVariables false
set_option linter.unusedSimpArgs false
namespace Go.SyP
open Go Go.Sy Sets

theorem few5_eq (a : List api_Pair) (m : api_Mut) (on : List api_Span) : splicelaw05_few a m on = (decide (a.length ≤ 200) && decide (m.Pairs.length ≤ 100) && decide (on.length ≤ 100)) := by
  unfold splicelaw05_few splicelaw05_few.j1
  by_cases h1 : a.length ≤ 200
  · rw [if_pos (by omega), decide_eq_true h1]
    by_cases h2 : m.Pairs.length ≤ 100
    · rw [if_pos (by omega), decide_eq_true h2]
      have : ((on.length : Int) ≤ 100) = (on.length ≤ 100) := by
        apply propext
        omega
      simp only [this]
      rfl
    · rw [if_neg (by omega), decide_eq_false h2]
      rfl
  · rw [if_neg (by omega), decide_eq_false h1]
    rfl
theorem few5_cases (a : List api_Pair) (m : api_Mut) (on : List api_Span) : (splicelaw05_few a m on = true ∧ a.length ≤ 200 ∧ m.Pairs.length ≤ 100 ∧ on.length ≤ 100) ∨ splicelaw05_few a m on = false := by
  rw [few5_eq]
  cases h : (decide (a.length ≤ 200) && decide (m.Pairs.length ≤ 100) && decide (on.length ≤ 100)) with
  | false => exact .inr rfl
  | true =>
    simp only [Bool.and_eq_true, decide_eq_true_eq] at h
    exact .inl ⟨rfl, h.1.1, h.1.2, h.2⟩

theorem SOk_one {x : api_Span} (h : Ok (pa x)) : SOk [x] := ⟨⟨fun y hy => by simp at hy; subst hy; exact h, by simp⟩, by simp⟩
theorem hasB_one {x : api_Span} (h : Ok (pa x)) (k : Int) : hasB [x] k = (decide (x.Lo ≤ k) && decide (k < x.Hi)) := by
  unfold hasB
  simp only [List.map_cons, List.map_nil, List.any_cons, List.any_nil, decide_eq_true h, Bool.true_and, Bool.or_false]
  rfl
def allS : List api_Span := [⟨0, 4096⟩]
theorem allS_ok : SOk allS := SOk_one (by decide)
theorem hasB_all {k : Int} (h : 0 ≤ k ∧ k < 4096) : hasB allS k = true := by
  rw [allS, hasB_one (by decide)]
  simp
  omega

/-- The result is known, if it is right for each key. -/
theorem Apply_is {l : List api_Pair} {m : api_Mut} {on : List api_Span} {r : List api_Pair × Bool} (hl : l.length ≤ 1000) (hpl : m.Pairs.length ≤ 1000) (ho : on.length ≤ 5000) (ht : Tb l) (hm : mOk m = true) (hs : SOk on) (h : ApplyTo l m on r) : table_Apply l m on = some r := by
  obtain ⟨s, e1, e2, _⟩ := table_Apply_eq l m on hl hpl ho ht hm hs
  rw [e1, e2.unique h]

theorem tb57 : Tb [⟨5, 7⟩] := ⟨fun x hx => by simp at hx; subst hx; decide, by simp [Up]⟩
theorem awake5 : splicelaw05_awake = some true := by
  have e1 : table_Apply [⟨5, 7⟩] ⟨1, 1, 3, [⟨5, 3⟩], ⟨0, 0⟩, 0⟩ [⟨0, 4096⟩] = some ([⟨5, 10⟩], true) :=
    Apply_is (by decide) (by decide) (by decide) tb57 (by decide) allS_ok ⟨fun _ => ⟨by simp [Up], fun j => by
      unfold stepK touB cellO
      by_cases hj : j = 5
      · subst hj
        rw [hasB_one (by decide)]
        simp [look]
      · simp [look, if_neg (show ¬ (5 : Int) = j from fun e => hj e.symm)]⟩, fun h => by cases h⟩
  have e2 : table_Apply [⟨5, 7⟩] ⟨1, 1, 5, [⟨5, 4⟩, ⟨9, 4⟩], ⟨0, 0⟩, 0⟩ [⟨9, 10⟩] = some ([⟨5, 7⟩, ⟨9, 4⟩], true) :=
    Apply_is (by decide) (by decide) (by decide) tb57 (by decide) (SOk_one (by decide)) ⟨fun _ => ⟨by simp [Up], fun j => by
      unfold stepK touB cellO
      rw [hasB_one (by decide)]
      by_cases hj : j = 5
      · subst hj
        simp [look]
      · by_cases hj9 : j = 9
        · subst hj9
          simp [look, within]
        · simp [look, if_neg (show ¬ (5 : Int) = j from fun e => hj e.symm), if_neg (show ¬ (9 : Int) = j from fun e => hj9 e.symm)]⟩, fun h => by cases h⟩
  unfold splicelaw05_awake
  rw [e1, Option.bind_some, e2, Option.bind_some]
  simp [splicelaw05_awake.j1]

theorem stay5 (j : Bool → Option Bool) (h : ∀ b, j b = some b) : ((splicelaw05_awake).bind fun v => some v) = some true := by rw [awake5]; rfl
theorem out5 : ((splicelaw05_awake).bind fun v => some v) = some true := by rw [awake5]; rfl

theorem splicelaw05_TableApplies_true (a : List api_Pair) (m : api_Mut) (on : List api_Span) : splicelaw05_TableApplies a m on = some true := by
  have eta : (⟨m.Client, m.Seq, m.Kind, m.Pairs, (⟨m.Over.Lo, m.Over.Hi⟩ : api_Span), m.Old⟩ : api_Mut) = m := rfl
  unfold splicelaw05_TableApplies
  try simp only [bnd, eta]
  rcases few5_cases a m on with ⟨h, h1, h2, h3⟩ | h
  · rw [if_pos h]
    obtain ⟨v, v', e1, e2, e3⟩ : ∃ v : List api_Pair × Bool, ∃ v' : List api_Pair × Bool, table_Apply a m on = some v ∧ spliceref05_Apply (a.map tr) (trM m) (on.map toR) = some (v'.1.map tr, v'.2) ∧ v = v' ∧ v.1.length ≤ 5000 := by
      by_cases hg : Tb a ∧ mOk m = true ∧ SOk on
      · obtain ⟨r, q1, q2, q3, q4⟩ := table_Apply_eq a m on (by omega) (by omega) (by omega) hg.1 hg.2.1 hg.2.2
        obtain ⟨s, q5, q6⟩ := ref_Apply_eq a m on (by omega) (by omega) (by omega) hg.1 hg.2.1 hg.2.2
        exact ⟨r, s, q1, q5, q2.unique q6, by omega⟩
      · exact ⟨([], false), ([], false), table_Apply_bad a m on (by omega) (by omega) (by omega) hg, ref_Apply_bad a m on (by omega) (by omega) (by omega) hg, rfl, by simp⟩
    obtain ⟨rfl, e4⟩ := e3
    rw [e1, Option.bind_some, Refs5_eq a (by omega), Option.bind_some, RefM_eq m (by omega), Option.bind_some, Refs_eq on (by omega), Option.bind_some, e2, Option.bind_some, awake5, Option.bind_some, if_pos rfl, Refs5_eq _ e4, Option.bind_some, same5_refl _ e4, Option.bind_some, if_pos rfl]
    simp [splicelaw05_TableApplies.j1]
  · rw [h]
    exact out5

theorem splicelaw05_TableChecks_true (a : List api_Pair) (k : Int) : splicelaw05_TableChecks a k = some true := by
  unfold splicelaw05_TableChecks
  simp only [bnd]
  rcases few5_cases a (⟨0, 0, 0, [], (⟨0, 0⟩ : api_Span), 0⟩ : api_Mut) [] with ⟨h, h1, h2, h3⟩ | h
  · rw [if_pos h]
    obtain ⟨r, c1, c2⟩ := table_Check_eq a (by omega)
    obtain ⟨s, c3, c4⟩ := ref5_Check_eq a (by omega)
    have hrs : s = r := by rw [Bool.eq_iff_iff, c2, c4]
    subst hrs
    by_cases ht : Tb a
    · have hr := c2.2 ht
      rw [Get_eq a k (by omega) ht, Option.bind_some, Refs5_eq a (by omega), Option.bind_some, ref5_Get_eq a k (by omega), Option.bind_some, Option.bind_some, c3, Option.bind_some, if_pos hr]
      unfold splicelaw05_TableChecks.j1
      rw [awake5, Option.bind_some, if_pos rfl, c1, Option.bind_some, if_pos hr]
      simp [splicelaw05_TableChecks.j2]
    · have hr : s ≠ true := fun e => ht (c2.1 e)
      rw [Get_bad a k (by omega) ht, Option.bind_some, Refs5_eq a (by omega), Option.bind_some, ref5_Get_eq a k (by omega), Option.bind_some, Option.bind_some, c3, Option.bind_some, if_neg hr]
      unfold splicelaw05_TableChecks.j1
      rw [awake5, Option.bind_some, if_pos rfl, c1, Option.bind_some, if_neg hr]
      simp [splicelaw05_TableChecks.j2]
  · rw [h]
    exact out5

theorem touch_cell {m : api_Mut} (h : m.Kind = 1 ∨ m.Kind = 2) {j : Int} (ht : touB m j = true) (c d : Option Int) : cellO m j c = cellO m j d ∧ cellO m j c ≠ none := by
  unfold cellO
  unfold touB at ht
  rcases h with h | h
  · rw [h] at ht ⊢
    simp only [show ¬ (1 : Int) = 2 by decide, show ¬ (1 : Int) = 3 by decide, show ¬ (1 : Int) = 4 by decide, show ¬ (1 : Int) = 5 by decide, if_false] at ht ⊢
    cases hl : look m.Pairs j with
    | none => rw [hl] at ht; cases ht
    | some v => exact ⟨rfl, by simp⟩
  · rw [if_pos h, if_pos h]
    exact ⟨rfl, by simp⟩
theorem fail_alone {l : List api_Pair} {m : api_Mut} {on : List api_Span} {k : Int} (h : stepK l m on k = none) : m.Kind = 3 ∨ m.Kind = 4 := by
  unfold stepK at h
  split at h
  · unfold cellO at h
    by_cases k3 : m.Kind = 3
    · exact .inl k3
    · by_cases k4 : m.Kind = 4
      · exact .inr k4
      · rw [if_neg k3, if_neg k4] at h
        exfalso
        split at h
        · cases h
        · split at h
          · split at h <;> cases h
          · cases h
  · cases h

theorem splicelaw05_TableTwice_true (a : List api_Pair) (m : api_Mut) (on : List api_Span) : splicelaw05_TableTwice a m on = some true := by
  have eta : (⟨m.Client, m.Seq, m.Kind, m.Pairs, (⟨m.Over.Lo, m.Over.Hi⟩ : api_Span), m.Old⟩ : api_Mut) = m := rfl
  have j1t : splicelaw05_TableTwice.j1 a m on true = some true := by
    unfold splicelaw05_TableTwice.j1
    rw [if_pos rfl]
    exact out5
  unfold splicelaw05_TableTwice
  try simp only [bnd, eta]
  rcases few5_cases a m on with ⟨h, h1, h2, h3⟩ | h
  · rw [if_pos h]
    obtain ⟨r1, c1, c2⟩ := table_Check_eq a (by omega)
    obtain ⟨r3, c5, c6⟩ := chkSR on (by omega)
    rw [c1, Option.bind_some]
    cases hr1 : r1 with
    | false => exact j1t
    | true =>
      rw [if_pos rfl, mut_Check_eq m (by omega), Option.bind_some]
      cases hm : mOk m with
      | false => exact j1t
      | true =>
        rw [if_pos rfl, Refs_eq on (by omega), Option.bind_some, c5, Option.bind_some]
        cases hr3 : r3 with
        | false => exact j1t
        | true =>
          have ht := c2.1 hr1
          have hs := c6.1 hr3
          have hmi := mutIs hm
          obtain ⟨r, q1, q2, q3, q4⟩ := table_Apply_eq a m on (by omega) (by omega) (by omega) ht hm hs
          obtain ⟨s, p1, p2, p3, p4⟩ := table_Apply_eq r.1 m on (by omega) (by omega) (by omega) q3 hm hs
          unfold splicelaw05_TableTwice.j1
          try simp only [eta]
          rw [show (!true) = false from rfl, if_neg (by decide), q1, Option.bind_some, p1, Option.bind_some]
          by_cases k12 : m.Kind = 1 ∨ m.Kind = 2
          · have hne : ∀ (l : List api_Pair) k, stepK l m on k ≠ none := fun l k e => by
              have := fail_alone e
              omega
            have hr2 : r.2 = true := by
              cases hh : r.2 with
              | true => rfl
              | false =>
                obtain ⟨_, k, hk⟩ := q2.fail hh
                exact absurd hk (hne _ _)
            obtain ⟨u1, u2⟩ := q2.done hr2
            have hap : ApplyTo r.1 m on (r.1, true) := ⟨fun _ => ⟨u1, fun j => by
              simp only
              have := u2 j
              unfold stepK at this ⊢
              by_cases hc : (touB m j && hasB on j) = true
              · rw [if_pos hc] at this ⊢
                have ht' := (Bool.and_eq_true _ _ ▸ hc).1
                rw [← this]
                exact (touch_cell k12 ht' _ _).1
              · rw [if_neg hc]⟩, fun h => by cases h⟩
            have hs2 := p2.unique hap
            have e : (if m.Kind = 1 then splicelaw05_TableTwice.j2 m on r s true else splicelaw05_TableTwice.j2 m on r s (m.Kind == 2)) = splicelaw05_TableTwice.j2 m on r s true := by
              rcases k12 with k | k
              · rw [if_pos k]
              · rw [if_neg (by omega), k]; rfl
            rw [e, hs2]
            unfold splicelaw05_TableTwice.j2
            rw [if_pos rfl, awake5, Option.bind_some, if_pos rfl, if_pos hr2]
            simp only [if_true]
            rw [Refs5_eq r.1 (by omega), Option.bind_some, Option.bind_some, same5_refl _ (by omega), Option.bind_some]
            rfl
          · rw [if_neg (by omega)]
            have hk2 : (m.Kind == 2) = false := by
              rw [beq_eq_false_iff_ne]
              omega
            rw [hk2]
            unfold splicelaw05_TableTwice.j2
            rw [if_neg (by decide)]
            have j4f : splicelaw05_TableTwice.j4 r s false = some true := by
              unfold splicelaw05_TableTwice.j4
              rw [if_neg (by decide)]
              exact out5
            by_cases k4 : m.Kind = 4
            · rw [if_pos k4]
              by_cases hr2 : r.2 = true
              · obtain ⟨p, hp⟩ := hmi.one (.inr k4)
                rw [if_pos hr2, hp]
                simp only [List.length_singleton, List.getD_cons_zero]
                rw [if_pos (by omega)]
                by_cases hv : p.Val = m.Old
                · rw [if_pos hv]
                  exact j4f
                · rw [if_neg hv, has_eq on (by omega), Option.bind_some]
                  cases hb : hasB on p.Key with
                  | false => exact j4f
                  | true =>
                    have htou : touB m p.Key = true := by
                      unfold touB
                      rw [if_neg (by omega), hp]
                      simp [look]
                    obtain ⟨u1, u2⟩ := q2.done hr2
                    have hk := u2 p.Key
                    have hcell : ∀ c, cellO m p.Key c = if c.getD 1099511627777 = m.Old then some (some p.Val) else none := fun c => by
                      unfold cellO
                      rw [if_neg (by omega), if_neg (by omega), if_pos k4, hp]
                      rfl
                    have hlk : look r.1 p.Key = some p.Val := by
                      unfold stepK at hk
                      rw [htou, hb, if_pos (show (true && true) = true from rfl), hcell] at hk
                      split at hk
                      · injection hk with hk
                        exact hk.symm
                      · cases hk
                    have hfail : stepK r.1 m on p.Key = none := by
                      unfold stepK
                      rw [htou, hb, if_pos (show (true && true) = true from rfl), hcell, hlk, Option.getD_some, if_neg hv]
                    have hs2 : s.2 = false := by
                      cases hh : s.2 with
                      | false => rfl
                      | true =>
                        have := (p2.done hh).2 p.Key
                        rw [hfail] at this
                        cases this
                    have hs1 := (p2.fail hs2).1
                    unfold splicelaw05_TableTwice.j4
                    rw [if_pos rfl, awake5, Option.bind_some, if_pos rfl, if_neg (by rw [hs2]; decide), hs1, Refs5_eq r.1 (by omega), Option.bind_some, Option.bind_some, same5_refl _ (by omega), Option.bind_some]
                    rfl
              · rw [if_neg hr2]
                exact j4f
            · rw [if_neg k4]
              exact j4f
  · rw [h]
    exact j1t

theorem hasB_key {k j : Int} (h : 0 ≤ k ∧ k < 4096) : hasB [⟨k, k + 1⟩] j = decide (j = k) := by
  rw [hasB_one (x := ⟨k, k + 1⟩) (show Ok (k, k + 1) from ⟨h.1, by omega, by omega⟩), Bool.eq_iff_iff]
  simp only [Bool.and_eq_true, decide_eq_true_eq]
  omega

theorem splicelaw05_TableKeys_true (t : splicelaw05_Two) (m : api_Mut) (k : Int) : splicelaw05_TableKeys t m k = some true := by
  have eta : (⟨m.Client, m.Seq, m.Kind, m.Pairs, (⟨m.Over.Lo, m.Over.Hi⟩ : api_Span), m.Old⟩ : api_Mut) = m := rfl
  obtain ⟨a, b⟩ := t
  have j1t : splicelaw05_TableKeys.j1 ⟨a, b⟩ m k true = some true := by
    unfold splicelaw05_TableKeys.j1
    rw [if_pos rfl]
    exact out5
  have j2t : splicelaw05_TableKeys.j2 ⟨a, b⟩ m k true = some true := by
    unfold splicelaw05_TableKeys.j2
    rw [if_pos rfl]
    exact out5
  unfold splicelaw05_TableKeys
  try simp only [bnd, eta]
  rcases few5_cases a m [] with ⟨h, h1, h2, h3⟩ | h
  · rw [if_pos h]
    rcases few5_cases b m [] with ⟨h', h1', _, _⟩ | h'
    · rw [if_pos h']
      obtain ⟨r1, c1, c2⟩ := table_Check_eq a (by omega)
      obtain ⟨r2, c3, c4⟩ := table_Check_eq b (by omega)
      rw [c1, Option.bind_some]
      cases hr1 : r1 with
      | false => exact j1t
      | true =>
        rw [if_pos rfl, c3, Option.bind_some]
        cases hr2 : r2 with
        | false => exact j1t
        | true =>
          rw [if_pos rfl, mut_Check_eq m (by omega), Option.bind_some]
          cases hm : mOk m with
          | false => exact j1t
          | true =>
            rw [if_pos rfl]
            by_cases hk0 : k < 0
            · rw [if_pos hk0]
              exact j1t
            · rw [if_neg hk0]
              by_cases hk1 : k ≥ 4096
              · rw [decide_eq_true hk1]
                exact j1t
              · rw [decide_eq_false hk1]
                have hta := c2.1 hr1
                have htb := c4.1 hr2
                unfold splicelaw05_TableKeys.j1
                simp only
                rw [if_neg (by decide), Get_eq a k (by omega) hta, Option.bind_some, Get_eq b k (by omega) htb, Option.bind_some]
                by_cases hv : (look a k).getD 0 = (look b k).getD 0 ∧ (look a k).isSome = (look b k).isSome
                · have hlk : look a k = look b k := by
                    obtain ⟨v1, v2⟩ := hv
                    cases ea : look a k <;> cases eb : look b k <;> rw [ea, eb] at v1 v2 <;> simp at v1 v2 ⊢
                    exact v1
                  simp only [pairO]
                  rw [if_pos hv.1, hv.2]
                  simp only [BEq.rfl, Bool.not_true]
                  unfold splicelaw05_TableKeys.j2
                  try simp only [eta]
                  rw [if_neg (by decide), wr (by omega)]
                  have hs : SOk [⟨k, k + 1⟩] := SOk_one (x := ⟨k, k + 1⟩) (show Ok (k, k + 1) from ⟨by omega, by omega, by omega⟩)
                  obtain ⟨r, q1, q2, q3, q4⟩ := table_Apply_eq a m [⟨k, k + 1⟩] (by omega) (by omega) (by simp) hta hm hs
                  obtain ⟨s, p1, p2, p3, p4⟩ := table_Apply_eq b m [⟨k, k + 1⟩] (by omega) (by omega) (by simp) htb hm hs
                  have hst : ∀ (l : List api_Pair) j, stepK l m [⟨k, k + 1⟩] j = if touB m j && decide (j = k) then cellO m j (look l j) else some (look l j) := fun l j => by
                    unfold stepK
                    rw [hasB_key (by omega)]
                  have hkk : stepK a m [⟨k, k + 1⟩] k = stepK b m [⟨k, k + 1⟩] k := by rw [hst, hst, hlk]
                  have hnn : ∀ (l : List api_Pair) j, stepK l m [⟨k, k + 1⟩] j = none → stepK l m [⟨k, k + 1⟩] k = none := fun l j hj => by
                    have h0 := hj
                    rw [hst] at h0
                    split at h0
                    · rename_i hc
                      simp only [Bool.and_eq_true, decide_eq_true_eq] at hc
                      rw [hc.2] at hj
                      exact hj
                    · cases h0
                  rw [q1, Option.bind_some, p1, Option.bind_some, Get_eq r.1 k (by omega) q3, Option.bind_some, Get_eq s.1 k (by omega) p3, Option.bind_some, awake5, Option.bind_some, if_pos rfl]
                  simp only [pairO]
                  have fin : r.2 = s.2 ∧ look r.1 k = look s.1 k := by
                    cases hr : r.2 with
                    | true =>
                      have u := (q2.done hr).2 k
                      cases hs' : s.2 with
                      | true =>
                        have v := (p2.done hs').2 k
                        rw [← hkk, u] at v
                        injection v with v
                        exact ⟨rfl, v⟩
                      | false =>
                        obtain ⟨_, j, hj⟩ := p2.fail hs'
                        have := hnn b j hj
                        rw [← hkk, u] at this
                        cases this
                    | false =>
                      obtain ⟨ur, j, hj⟩ := q2.fail hr
                      have hno := hnn a j hj
                      cases hs' : s.2 with
                      | true =>
                        have v := (p2.done hs').2 k
                        rw [← hkk, hno] at v
                        cases v
                      | false =>
                        exact ⟨rfl, by rw [ur, (p2.fail hs').1, hlk]⟩
                  rw [fin.1, fin.2]
                  cases s.2 <;> simp [splicelaw05_TableKeys.j3]
                · simp only [pairO]
                  by_cases hv1 : (look a k).getD 0 = (look b k).getD 0
                  · rw [if_pos hv1]
                    have hv2 : ((look a k).isSome == (look b k).isSome) = false := by
                      rw [beq_eq_false_iff_ne]
                      exact fun e => hv ⟨hv1, e⟩
                    rw [hv2]
                    exact j2t
                  · rw [if_neg hv1]
                    exact j2t
    · rw [h']
      exact j1t
  · rw [h]
    exact j1t

theorem splicelaw05_TableFails_true (a : List api_Pair) (m : api_Mut) (k : Int) : splicelaw05_TableFails a m k = some true := by
  have eta : (⟨m.Client, m.Seq, m.Kind, m.Pairs, (⟨m.Over.Lo, m.Over.Hi⟩ : api_Span), m.Old⟩ : api_Mut) = m := rfl
  have j1t : splicelaw05_TableFails.j1 a m k true = some true := by
    unfold splicelaw05_TableFails.j1
    rw [if_pos rfl]
    exact out5
  unfold splicelaw05_TableFails
  try simp only [bnd, eta]
  rcases few5_cases a m [] with ⟨h, h1, h2, h3⟩ | h
  · rw [if_pos h]
    obtain ⟨r1, c1, c2⟩ := table_Check_eq a (by omega)
    rw [c1, Option.bind_some]
    cases hr1 : r1 with
    | false => exact j1t
    | true =>
      rw [if_pos rfl, mut_Check_eq m (by omega), Option.bind_some]
      cases hm : mOk m with
      | false => exact j1t
      | true =>
        have hta := c2.1 hr1
        have hmi := mutIs hm
        obtain ⟨r, q1, q2, q3, q4⟩ := table_Apply_eq a m [⟨0, 4096⟩] (by omega) (by omega) (by simp) hta hm allS_ok
        unfold splicelaw05_TableFails.j1
        try simp only [eta]
        rw [show (!true) = false from rfl, if_neg (by decide), q1, Option.bind_some]
        have j2f : splicelaw05_TableFails.j2 a m k r false = some true := by
          unfold splicelaw05_TableFails.j2
          try simp only [eta]
          obtain ⟨r5, c7, c8⟩ := table_Check_eq r.1 (by omega)
          rw [if_neg (by decide), Get_eq a k (by omega) hta, Option.bind_some, Get_eq r.1 k (by omega) q3, Option.bind_some, RefM_eq m (by omega), Option.bind_some, touches_eq m k (by omega), Option.bind_some, awake5, Option.bind_some, if_pos rfl, c7, c8.2 q3, Option.bind_some, if_pos rfl]
          cases htou : touB m k with
          | true => rfl
          | false =>
            have hst : stepK a m [⟨0, 4096⟩] k = some (look a k) := by
              unfold stepK
              rw [htou, Bool.false_and, if_neg (by decide)]
            have hlk : look r.1 k = look a k := by
              cases hr : r.2 with
              | true =>
                have := (q2.done hr).2 k
                rw [hst] at this
                injection this with this
                exact this.symm
              | false => rw [(q2.fail hr).1]
            simp [hlk, splicelaw05_TableFails.j3]
        cases hr : r.2 with
        | true => exact j2f
        | false =>
          obtain ⟨ur, j, hj⟩ := q2.fail hr
          have hk := fail_alone hj
          have hd : (decide (m.Kind = 3) || decide (m.Kind = 4)) = true := by simpa using hk
          rw [if_neg (by decide), alone_eq m (by omega), Option.bind_some, hm, hd, if_pos (show (true && true) = true from rfl), Refs5_eq r.1 (by omega), Option.bind_some, Refs5_eq a (by omega), Option.bind_some, ur, same5_refl _ (by omega), Option.bind_some]
          exact j2f
  · rw [h]
    exact j1t
end Go.SyP
