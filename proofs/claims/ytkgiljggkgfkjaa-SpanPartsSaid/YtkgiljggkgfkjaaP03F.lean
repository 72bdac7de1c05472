/- The ten laws of span are true of the plain functions. -/
import Derived.Test.YtkgiljggkgfkjaaP03E
set_option linter.unusedVariables false
set_option linter.unusedSimpArgs false
namespace Go.SyP
open Go Go.Sy Sets Go.Sort Go.Proofs

theorem splicelaw03_SpanMakes_true (a : List api_Span) : splicelaw03_SpanMakes a = some true := by
  unfold splicelaw03_SpanMakes
  rw [few_eq]
  by_cases h : a.length ≤ 200
  · rw [decide_eq_true h, if_pos rfl]
    have hr := ref_Make_eq a (by omega)
    by_cases hg : Good a
    · obtain ⟨v, v', e1, e2, e3⟩ := same_res (span_Make_good (by omega) hg) (hr.2 hg) fun k => Iff.rfl
      rw [e1, Option.bind_some, Refs_eq a (by omega), Option.bind_some, e2, Option.bind_some, awake_true, Option.bind_some, if_pos rfl, e3]
      rfl
    · have e3 := same_true (s := []) (by simp) 1
      rw [span_Make_bad (by omega) hg, Option.bind_some, Refs_eq a (by omega), Option.bind_some, hr.1 hg, Option.bind_some, awake_true, Option.bind_some, if_pos rfl]
      rw [List.map_nil] at e3
      rw [e3]
      rfl
  · rw [decide_eq_false h, if_neg (by decide), awake_true]
    rfl

theorem splicelaw03_SpanMeets_true (a b : List api_Span) : splicelaw03_SpanMeets a b = some true := by
  have out : splicelaw03_SpanMeets.j1 a b true = some true := by
    unfold splicelaw03_SpanMeets.j1
    rw [if_pos rfl, awake_true]
    rfl
  unfold splicelaw03_SpanMeets
  rw [few_eq, few_eq]
  by_cases ha : a.length ≤ 200
  · rw [decide_eq_true ha, if_pos rfl]
    by_cases hb : b.length ≤ 200
    · rw [decide_eq_true hb]
      unfold splicelaw03_SpanMeets.j1
      rw [if_neg (by decide)]
      obtain ⟨t, t1, t2⟩ := touch_eq a b (by omega) (by omega)
      by_cases hs : Set' a ∧ Set' b
      · obtain ⟨v, v', e1, e2, e3⟩ := same_res (meet_good hs.1 hs.2) (mix_good 1 hs.1 hs.2 (m := fun k => mem (a.map pa) k ∧ mem (b.map pa) k) fun k => by rw [if_neg (by decide), if_pos rfl]) fun k => Iff.rfl
        obtain ⟨r, r1, r2⟩ := some_good 1 (.inl rfl) hs.1 hs.2
        rw [e1, Option.bind_some, Refs_eq a (by omega), Option.bind_some, Refs_eq b (by omega), Option.bind_some, e2, Option.bind_some, Option.bind_some, chkRT (by omega) hs.1, Option.bind_some, if_pos rfl, Option.bind_some, chkRT (by omega) hs.2, Option.bind_some]
        unfold splicelaw03_SpanMeets.j2
        rw [awake_true, Option.bind_some, if_pos rfl, e3, Option.bind_some, if_pos rfl, t1, Option.bind_some, if_pos rfl, Refs_eq a (by omega), Option.bind_some, Refs_eq b (by omega), Option.bind_some, r1, Option.bind_some]
        have : t = r := by
          rw [Bool.eq_iff_iff, t2, r2]
          simp [hs.1, hs.2]
        subst this
        simp [splicelaw03_SpanMeets.j3]
      · have e3 := same_true (s := []) (by simp) 1
        rw [List.map_nil] at e3
        have tf : t = false := by
          cases t with
          | false => rfl
          | true => exact absurd ⟨(t2.1 rfl).1, (t2.1 rfl).2.1⟩ hs
        subst tf
        rw [meet_bad (by omega) (by omega) hs, Option.bind_some, Refs_eq a (by omega), Option.bind_some, Refs_eq b (by omega), Option.bind_some, mix_bad 1 (by omega) (by omega) hs, Option.bind_some, Option.bind_some]
        have fin : splicelaw03_SpanMeets.j2 a b ([], 1) ([], 1) false = some true := by
          unfold splicelaw03_SpanMeets.j2
          rw [awake_true, Option.bind_some, if_pos rfl, e3, Option.bind_some, if_pos rfl, t1]
          rfl
        by_cases h1 : Set' a
        · have h2 : ¬ Set' b := fun h2 => hs ⟨h1, h2⟩
          rw [chkRT (by omega) h1, Option.bind_some, if_pos rfl, Option.bind_some, chkRF (by omega) h2, Option.bind_some]
          exact fin
        · rw [chkRF (by omega) h1, Option.bind_some, if_neg (by decide)]
          exact fin
    · rw [decide_eq_false hb]
      exact out
  · rw [decide_eq_false ha, if_neg (by decide)]
    exact out

theorem splicelaw03_SpanLesses_true (a b : List api_Span) : splicelaw03_SpanLesses a b = some true := by
  have out : splicelaw03_SpanLesses.j1 a b true = some true := by
    unfold splicelaw03_SpanLesses.j1
    rw [if_pos rfl, awake_true]
    rfl
  unfold splicelaw03_SpanLesses
  rw [few_eq, few_eq]
  by_cases ha : a.length ≤ 200
  · rw [decide_eq_true ha, if_pos rfl]
    by_cases hb : b.length ≤ 200
    · rw [decide_eq_true hb]
      unfold splicelaw03_SpanLesses.j1
      rw [if_neg (by decide)]
      obtain ⟨t, t1, t2⟩ := within_eq a b (by omega) (by omega)
      by_cases hs : Set' a ∧ Set' b
      · obtain ⟨v, v', e1, e2, e3⟩ := same_res (less_good hs.1 hs.2) (mix_good 2 hs.1 hs.2 (m := fun k => mem (a.map pa) k ∧ ¬ mem (b.map pa) k) fun k => by rw [if_pos rfl]) fun k => Iff.rfl
        obtain ⟨r, r1, r2⟩ := some_good 2 (.inr rfl) hs.1 hs.2
        rw [e1, Option.bind_some, Refs_eq a (by omega), Option.bind_some, Refs_eq b (by omega), Option.bind_some, e2, Option.bind_some, Option.bind_some, chkRT (by omega) hs.1, Option.bind_some, if_pos rfl, Option.bind_some, chkRT (by omega) hs.2, Option.bind_some]
        unfold splicelaw03_SpanLesses.j2
        rw [awake_true, Option.bind_some, if_pos rfl, e3, Option.bind_some, if_pos rfl, t1, Option.bind_some, if_pos rfl, Refs_eq a (by omega), Option.bind_some, Refs_eq b (by omega), Option.bind_some, r1, Option.bind_some]
        have : t = !r := by
          rw [Bool.eq_iff_iff, t2, Bool.not_eq_true', ← Bool.not_eq_true, r2]
          simp [hs.1, hs.2]
        subst this
        simp [splicelaw03_SpanLesses.j3]
      · have e3 := same_true (s := []) (by simp) 1
        rw [List.map_nil] at e3
        have tf : t = false := by
          cases t with
          | false => rfl
          | true => exact absurd ⟨(t2.1 rfl).1, (t2.1 rfl).2.1⟩ hs
        subst tf
        rw [less_bad (by omega) (by omega) hs, Option.bind_some, Refs_eq a (by omega), Option.bind_some, Refs_eq b (by omega), Option.bind_some, mix_bad 2 (by omega) (by omega) hs, Option.bind_some, Option.bind_some]
        have fin : splicelaw03_SpanLesses.j2 a b ([], 1) ([], 1) false = some true := by
          unfold splicelaw03_SpanLesses.j2
          rw [awake_true, Option.bind_some, if_pos rfl, e3, Option.bind_some, if_pos rfl, t1]
          rfl
        by_cases h1 : Set' a
        · have h2 : ¬ Set' b := fun h2 => hs ⟨h1, h2⟩
          rw [chkRT (by omega) h1, Option.bind_some, if_pos rfl, Option.bind_some, chkRF (by omega) h2, Option.bind_some]
          exact fin
        · rw [chkRF (by omega) h1, Option.bind_some, if_neg (by decide)]
          exact fin
    · rw [decide_eq_false hb]
      exact out
  · rw [decide_eq_false ha, if_neg (by decide)]
    exact out

theorem splicelaw03_SpanJoins_true (a b : List api_Span) : splicelaw03_SpanJoins a b = some true := by
  have out : splicelaw03_SpanJoins.j1 a b true = some true := by
    unfold splicelaw03_SpanJoins.j1
    rw [if_pos rfl, awake_true]
    rfl
  unfold splicelaw03_SpanJoins
  rw [few_eq, few_eq]
  by_cases ha : a.length ≤ 200
  · rw [decide_eq_true ha, if_pos rfl]
    by_cases hb : b.length ≤ 200
    · rw [decide_eq_true hb]
      unfold splicelaw03_SpanJoins.j1
      rw [if_neg (by decide)]
      by_cases hs : Set' a ∧ Set' b
      · obtain ⟨v, v', e1, e2, e3⟩ := same_res (join_good hs.1 hs.2) (mix_good 0 hs.1 hs.2 (m := fun k => mem (a.map pa) k ∨ mem (b.map pa) k) fun k => by rw [if_neg (by decide), if_neg (by decide)]) fun k => Iff.rfl
        rw [e1, Option.bind_some, Refs_eq a (by omega), Option.bind_some, Refs_eq b (by omega), Option.bind_some, e2, Option.bind_some, awake_true, Option.bind_some, if_pos rfl, e3]
        rfl
      · have e3 := same_true (s := []) (by simp) 1
        rw [List.map_nil] at e3
        rw [join_bad (by omega) (by omega) hs, Option.bind_some, Refs_eq a (by omega), Option.bind_some, Refs_eq b (by omega), Option.bind_some, mix_bad 0 (by omega) (by omega) hs, Option.bind_some, awake_true, Option.bind_some, if_pos rfl, e3]
        rfl
    · rw [decide_eq_false hb]
      exact out
  · rw [decide_eq_false ha, if_neg (by decide)]
    exact out

theorem One_same (x : api_Span) : spliceref03_One ⟨x.Lo, x.Hi⟩ = span_One x := by rw [spliceref03_One_eq, span_One_eq]; rfl
theorem splicelaw03_SpanChecks_true (a : List api_Span) (x : api_Span) (k : Int) : splicelaw03_SpanChecks a x k = some true := by
  unfold splicelaw03_SpanChecks
  rw [few_eq]
  by_cases h : a.length ≤ 200
  · rw [decide_eq_true h, if_pos rfl, Refs_eq a (by omega), Option.bind_some, awake_true, Option.bind_some, if_pos rfl, One_same]
    have hh : ∃ r, span_Has a k = some r ∧ spliceref03_Has (a.map toR) k = some r := ⟨_, span_Has_eq a (by omega) k, by rw [ref_Has_eq _ (by simp; omega), pr_toR]⟩
    obtain ⟨r, r1, r2⟩ := hh
    have hc : ∃ c n, span_Check a = some c ∧ spliceref03_Check (a.map toR) = some c ∧ span_Count a = some n ∧ spliceref03_Count (a.map toR) = some n := by
      by_cases hs : Set' a
      · exact ⟨_, _, chkT (by omega) hs, chkRT (by omega) hs, count_eq hs, ref_count_eq hs⟩
      · exact ⟨_, _, chkF (by omega) hs, chkRF (by omega) hs, count_bad (by omega) hs, ref_count_bad (by omega) hs⟩
    obtain ⟨c, n, c1, c2, n1, n2⟩ := hc
    cases hx : span_One x <;> cases c <;> cases r <;> simp [c1, c2, r1, r2, n1, n2, splicelaw03_SpanChecks.j1]
  · rw [decide_eq_false h, if_neg (by decide), awake_true]
    rfl

theorem splicelaw03_SpanKeys_true (a b : List api_Span) : splicelaw03_SpanKeys a b = some true := by
  have out : splicelaw03_SpanKeys.j1 a b true = some true := by
    unfold splicelaw03_SpanKeys.j1
    rw [if_pos rfl, awake_true]
    rfl
  unfold splicelaw03_SpanKeys
  rw [few_eq, few_eq]
  by_cases ha : a.length ≤ 200
  · rw [decide_eq_true ha, if_pos rfl]
    by_cases hb : b.length ≤ 200
    · rw [decide_eq_true hb, if_pos rfl]
      by_cases h1 : Set' a
      · rw [chkT (by omega) h1, Option.bind_some, if_pos rfl]
        by_cases h2 : Set' b
        · rw [chkT (by omega) h2, Option.bind_some]
          show splicelaw03_SpanKeys.j1 a b false = some true
          unfold splicelaw03_SpanKeys.j1
          obtain ⟨w, w1, w2⟩ := within_eq a b (by omega) (by omega)
          obtain ⟨u, u1, u2⟩ := within_eq b a (by omega) (by omega)
          obtain ⟨l, l1, l2⟩ := alike_eq a a (by omega) (by omega)
          obtain ⟨q, q1, q2⟩ := alike_eq a b (by omega) (by omega)
          rw [if_neg (by decide), res_set (span_Make_good (by omega) (set_good h1)) h1 fun k => Iff.rfl, Option.bind_some, awake_true, Option.bind_some, if_pos rfl, if_pos rfl, l1, Option.bind_some, l2.2 rfl, if_pos rfl, w1, Option.bind_some]
          have hq : q = (w && u) := by
            rw [Bool.eq_iff_iff, q2, Bool.and_eq_true, w2, u2]
            constructor
            · rintro rfl
              exact ⟨⟨h1, h1, fun _ h => h⟩, h1, h1, fun _ h => h⟩
            · rintro ⟨⟨_, _, x⟩, _, _, y⟩
              exact set_same h1 h2 fun k => ⟨x k, y k⟩
          cases w with
          | true =>
            rw [if_pos rfl, u1, Option.bind_some, q1, Option.bind_some, hq]
            simp [splicelaw03_SpanKeys.j2]
          | false =>
            rw [if_neg (by decide), q1, Option.bind_some, hq]
            simp [splicelaw03_SpanKeys.j2]
        · rw [chkF (by omega) h2, Option.bind_some]
          exact out
      · rw [chkF (by omega) h1, Option.bind_some, if_neg (by decide)]
        exact out
    · rw [decide_eq_false hb, if_neg (by decide)]
      exact out
  · rw [decide_eq_false ha, if_neg (by decide)]
    exact out

/-- What a function that makes a set may answer. -/
theorem join_any (a b : List api_Span) (ha : a.length ≤ 200) (hb : b.length ≤ 200) : ∃ v, span_Join a b = some v ∧ v.1.length ≤ 64 ∧ (v.2 = 0 → Set' a ∧ Set' b ∧ Set' v.1 ∧ ∀ k, mem (v.1.map pa) k ↔ mem (a.map pa) k ∨ mem (b.map pa) k) := by
  by_cases h : Set' a ∧ Set' b
  · rcases res_cases (join_good h.1 h.2) with ⟨L, h1, h2, h3⟩ | h3
    · exact ⟨_, h3, h1.2, fun _ => ⟨h.1, h.2, h1, h2⟩⟩
    · exact ⟨_, h3, by simp, fun e => by cases e⟩
  · exact ⟨_, join_bad (by omega) (by omega) h, by simp, fun e => by cases e⟩
theorem meet_any (a b : List api_Span) (ha : a.length ≤ 200) (hb : b.length ≤ 200) : ∃ v, span_Meet a b = some v ∧ v.1.length ≤ 64 ∧ (v.2 = 0 → Set' a ∧ Set' b ∧ Set' v.1 ∧ ∀ k, mem (v.1.map pa) k ↔ mem (a.map pa) k ∧ mem (b.map pa) k) := by
  by_cases h : Set' a ∧ Set' b
  · rcases res_cases (meet_good h.1 h.2) with ⟨L, h1, h2, h3⟩ | h3
    · exact ⟨_, h3, h1.2, fun _ => ⟨h.1, h.2, h1, h2⟩⟩
    · exact ⟨_, h3, by simp, fun e => by cases e⟩
  · exact ⟨_, meet_bad (by omega) (by omega) h, by simp, fun e => by cases e⟩
theorem less_any (a b : List api_Span) (ha : a.length ≤ 200) (hb : b.length ≤ 200) : ∃ v, span_Less a b = some v ∧ v.1.length ≤ 64 ∧ (v.2 = 0 → Set' a ∧ Set' b ∧ Set' v.1 ∧ ∀ k, mem (v.1.map pa) k ↔ mem (a.map pa) k ∧ ¬ mem (b.map pa) k) := by
  by_cases h : Set' a ∧ Set' b
  · rcases res_cases (less_good h.1 h.2) with ⟨L, h1, h2, h3⟩ | h3
    · exact ⟨_, h3, h1.2, fun _ => ⟨h.1, h.2, h1, h2⟩⟩
    · exact ⟨_, h3, by simp, fun e => by cases e⟩
  · exact ⟨_, less_bad (by omega) (by omega) h, by simp, fun e => by cases e⟩
theorem join_comm (a b : List api_Span) (ha : a.length ≤ 200) (hb : b.length ≤ 200) : span_Join a b = span_Join b a := by
  by_cases h : Set' a ∧ Set' b
  · exact res_same (join_good h.1 h.2) (join_good h.2 h.1) fun k => or_comm
  · rw [join_bad (by omega) (by omega) h, join_bad (by omega) (by omega) fun h' => h h'.symm]
theorem meet_comm (a b : List api_Span) (ha : a.length ≤ 200) (hb : b.length ≤ 200) : span_Meet a b = span_Meet b a := by
  by_cases h : Set' a ∧ Set' b
  · exact res_same (meet_good h.1 h.2) (meet_good h.2 h.1) fun k => and_comm
  · rw [meet_bad (by omega) (by omega) h, meet_bad (by omega) (by omega) fun h' => h h'.symm]

theorem splicelaw03_SpanOrder_true (a b c : List api_Span) : splicelaw03_SpanOrder a b c = some true := by
  have out : splicelaw03_SpanOrder.j1 a b c true = some true := by
    unfold splicelaw03_SpanOrder.j1
    rw [if_pos rfl, awake_true]
    rfl
  have out3 : ∀ v w, splicelaw03_SpanOrder.j3 v w true = some true := by
    intro v w
    unfold splicelaw03_SpanOrder.j3
    rw [if_pos rfl, awake_true]
    rfl
  unfold splicelaw03_SpanOrder
  rw [few_eq, few_eq, few_eq]
  by_cases ha : a.length ≤ 200
  · rw [decide_eq_true ha, if_pos rfl]
    by_cases hb : b.length ≤ 200
    · rw [decide_eq_true hb, if_pos rfl]
      by_cases hc : c.length ≤ 200
      · rw [decide_eq_true hc]
        show splicelaw03_SpanOrder.j1 a b c false = some true
        unfold splicelaw03_SpanOrder.j1
        obtain ⟨v, v1, v2, v3⟩ := join_any a b ha hb
        obtain ⟨m, m1, m2, m3⟩ := meet_any a b ha hb
        obtain ⟨p, p1, p2⟩ := alike_eq v.1 v.1 (by omega) (by omega)
        obtain ⟨q, q1, q2⟩ := alike_eq m.1 m.1 (by omega) (by omega)
        rw [if_neg (by decide), ← join_comm a b ha hb, v1, Option.bind_some, Option.bind_some, ← meet_comm a b ha hb, m1, Option.bind_some, Option.bind_some, if_pos rfl, if_pos rfl, p1, Option.bind_some, p2.2 rfl, if_pos rfl, q1, Option.bind_some, q2.2 rfl]
        show splicelaw03_SpanOrder.j2 a b c v false = some true
        unfold splicelaw03_SpanOrder.j2
        obtain ⟨x, x1, x2, x3⟩ := join_any v.1 c (by omega) hc
        obtain ⟨y, y1, y2, y3⟩ := join_any b c hb hc
        obtain ⟨z, z1, z2, z3⟩ := join_any a y.1 ha (by omega)
        rw [if_neg (by decide), x1, Option.bind_some, y1, Option.bind_some, z1, Option.bind_some]
        by_cases h1 : v.2 = 0
        · rw [if_pos h1]
          by_cases h2 : x.2 = 0
          · rw [if_pos h2]
            by_cases h3 : y.2 = 0
            · rw [if_pos h3]
              by_cases h4 : z.2 = 0
              · have e : (z.2 != 0) = false := by simp [h4]
                rw [e]
                unfold splicelaw03_SpanOrder.j3
                have hx := x3 h2
                have hz := z3 h4
                have hv := v3 h1
                have hy := y3 h3
                have hxz : x.1 = z.1 := set_same hx.2.2.1 hz.2.2.1 fun k => by rw [hx.2.2.2, hz.2.2.2, hv.2.2.2, hy.2.2.2, or_assoc]
                obtain ⟨w, w1, w2⟩ := alike_eq x.1 z.1 (by omega) (by omega)
                rw [if_neg (by decide), awake_true, Option.bind_some, if_pos rfl, w1, Option.bind_some, w2.2 hxz]
                rfl
              · have e : (z.2 != 0) = true := by simp [h4]
                rw [e]
                exact out3 _ _
            · rw [if_neg h3]; exact out3 _ _
          · rw [if_neg h2]; exact out3 _ _
        · rw [if_neg h1]; exact out3 _ _
      · rw [decide_eq_false hc]
        exact out
    · rw [decide_eq_false hb, if_neg (by decide)]
      exact out
  · rw [decide_eq_false ha, if_neg (by decide)]
    exact out

theorem splicelaw03_SpanSpreads_true (a b c : List api_Span) : splicelaw03_SpanSpreads a b c = some true := by
  have out : splicelaw03_SpanSpreads.j1 a b c true = some true := by
    unfold splicelaw03_SpanSpreads.j1
    rw [if_pos rfl, awake_true]
    rfl
  have out2 : ∀ v w, splicelaw03_SpanSpreads.j2 v w true = some true := by
    intro v w
    unfold splicelaw03_SpanSpreads.j2
    rw [if_pos rfl, awake_true]
    rfl
  unfold splicelaw03_SpanSpreads
  rw [few_eq, few_eq, few_eq]
  by_cases ha : a.length ≤ 200
  · rw [decide_eq_true ha, if_pos rfl]
    by_cases hb : b.length ≤ 200
    · rw [decide_eq_true hb, if_pos rfl]
      by_cases hc : c.length ≤ 200
      · rw [decide_eq_true hc]
        show splicelaw03_SpanSpreads.j1 a b c false = some true
        unfold splicelaw03_SpanSpreads.j1
        obtain ⟨v, v1, v2, v3⟩ := join_any b c hb hc
        obtain ⟨x, x1, x2, x3⟩ := meet_any a v.1 ha (by omega)
        obtain ⟨p, p1, p2, p3⟩ := meet_any a b ha hb
        obtain ⟨q, q1, q2, q3⟩ := meet_any a c ha hc
        obtain ⟨y, y1, y2, y3⟩ := join_any p.1 q.1 (by omega) (by omega)
        rw [if_neg (by decide), v1, Option.bind_some, x1, Option.bind_some, p1, Option.bind_some, q1, Option.bind_some, y1, Option.bind_some]
        by_cases h1 : v.2 = 0
        · rw [if_pos h1]
          by_cases h2 : x.2 = 0
          · rw [if_pos h2]
            by_cases h3 : p.2 = 0
            · rw [if_pos h3]
              by_cases h4 : q.2 = 0
              · rw [if_pos h4]
                by_cases h5 : y.2 = 0
                · have e : (y.2 != 0) = false := by simp [h5]
                  rw [e]
                  unfold splicelaw03_SpanSpreads.j2
                  have hxy : x.1 = y.1 := set_same (x3 h2).2.2.1 (y3 h5).2.2.1 fun k => by rw [(x3 h2).2.2.2, (y3 h5).2.2.2, (v3 h1).2.2.2, (p3 h3).2.2.2, (q3 h4).2.2.2, and_or_left]
                  obtain ⟨w, w1, w2⟩ := alike_eq x.1 y.1 (by omega) (by omega)
                  rw [if_neg (by decide), awake_true, Option.bind_some, if_pos rfl, w1, Option.bind_some, w2.2 hxy]
                  rfl
                · have e : (y.2 != 0) = true := by simp [h5]
                  rw [e]; exact out2 _ _
              · rw [if_neg h4]; exact out2 _ _
            · rw [if_neg h3]; exact out2 _ _
          · rw [if_neg h2]; exact out2 _ _
        · rw [if_neg h1]; exact out2 _ _
      · rw [decide_eq_false hc]
        exact out
    · rw [decide_eq_false hb, if_neg (by decide)]
      exact out
  · rw [decide_eq_false ha, if_neg (by decide)]
    exact out

/-- The sizes of sets, by their keys. -/
theorem size_keys {l : List Sp} (h : Canon l) : size l = (count (fun k => memB l k) 4096 : Int) := (count_size h).symm
theorem memB_congr {l m : List Sp} {k : Int} (h : mem l k ↔ mem m k) : memB l k = memB m k := by
  rw [Bool.eq_iff_iff, memB_iff, memB_iff, h]
theorem size_two {j m a b : List Sp} (hj : Canon j) (hm : Canon m) (ha : Canon a) (hb : Canon b) (e1 : ∀ k, mem j k ↔ mem a k ∨ mem b k) (e2 : ∀ k, mem m k ↔ mem a k ∧ mem b k) : size j + size m = size a + size b := by
  rw [size_keys hj, size_keys hm, size_keys ha, size_keys hb]
  have c1 : count (fun k => memB j k) 4096 = count (fun k => memB a k || memB b k) 4096 := count_congr fun k _ => by rw [Bool.eq_iff_iff, Bool.or_eq_true, memB_iff, memB_iff, memB_iff, e1]
  have c2 : count (fun k => memB m k) 4096 = count (fun k => memB a k && memB b k) 4096 := count_congr fun k _ => by rw [Bool.eq_iff_iff, Bool.and_eq_true, memB_iff, memB_iff, memB_iff, e2]
  have := count_and_or (f := fun k => memB a k) (g := fun k => memB b k) (n := 4096)
  rw [c1, c2]
  omega
theorem size_set {a : List api_Span} (h : Set' a) : 0 ≤ size (a.map pa) ∧ size (a.map pa) ≤ 4096 * 64 := by
  have := size_bound h.1.ok
  have l := h.2
  rw [List.length_map] at this
  omega
theorem size_pos {a : List api_Span} (h : Set' a) : 0 < size (a.map pa) ↔ ∃ k, mem (a.map pa) k := by
  cases a with
  | nil => simp [size, mem_nil]
  | cons x a =>
    have ox := h.1.ok (pa x) (by simp)
    unfold Sets.Ok at ox
    have hb := size_bound h.1.tail.ok
    constructor
    · intro _
      exact ⟨(pa x).1, mem_cons.2 (.inl ⟨by omega, by omega⟩)⟩
    · intro _
      simp only [List.map_cons, size, List.foldr_cons] at hb ⊢
      omega

theorem splicelaw03_SpanCounts_true (a b : List api_Span) : splicelaw03_SpanCounts a b = some true := by
  have out : splicelaw03_SpanCounts.j1 a b true = some true := by
    unfold splicelaw03_SpanCounts.j1
    rw [if_pos rfl, awake_true]
    rfl
  have out2 : ∀ v w, splicelaw03_SpanCounts.j2 a b v w true = some true := by
    intro v w
    unfold splicelaw03_SpanCounts.j2
    rw [if_pos rfl, awake_true]
    rfl
  unfold splicelaw03_SpanCounts
  rw [few_eq, few_eq]
  by_cases ha : a.length ≤ 200
  · rw [decide_eq_true ha, if_pos rfl]
    by_cases hb : b.length ≤ 200
    · rw [decide_eq_true hb]
      show splicelaw03_SpanCounts.j1 a b false = some true
      unfold splicelaw03_SpanCounts.j1
      obtain ⟨v, v1, v2, v3⟩ := join_any a b ha hb
      obtain ⟨m, m1, m2, m3⟩ := meet_any a b ha hb
      rw [if_neg (by decide), v1, Option.bind_some, m1, Option.bind_some]
      by_cases h1 : v.2 = 0
      · rw [if_pos h1]
        by_cases h2 : m.2 = 0
        · have e : (m.2 != 0) = false := by simp [h2]
          rw [e]
          unfold splicelaw03_SpanCounts.j2
          obtain ⟨sa, sb, sv, hv⟩ := v3 h1
          obtain ⟨_, _, sm, hm⟩ := m3 h2
          obtain ⟨t, t1, t2⟩ := touch_eq a b (by omega) (by omega)
          have b1 := size_set sa
          have b2 := size_set sb
          have b3 := size_set sv
          have b4 := size_set sm
          have hsum := size_two sv.1 sm.1 sa.1 sb.1 hv hm
          rw [if_neg (by decide), awake_true, Option.bind_some, if_pos rfl, count_eq sa, Option.bind_some, count_eq sb, Option.bind_some, count_eq sv, Option.bind_some, count_eq sm, Option.bind_some]
          rw [if_pos (by rw [hsum]), t1, Option.bind_some, Option.bind_some]
          have : t = decide (size (m.1.map pa) > 0) := by
            rw [Bool.eq_iff_iff, t2, decide_eq_true_eq]
            have := size_pos sm
            simp only [sa, sb, true_and, gt_iff_lt]
            rw [this]
            exact ⟨fun ⟨k, h⟩ => ⟨k, (hm k).2 h⟩, fun ⟨k, h⟩ => ⟨k, (hm k).1 h⟩⟩
          rw [this]
          simp [splicelaw03_SpanCounts.j3]
        · have e : (m.2 != 0) = true := by simp [h2]
          rw [e]; exact out2 _ _
      · rw [if_neg h1]; exact out2 _ _
    · rw [decide_eq_false hb]
      exact out
  · rw [decide_eq_false ha, if_neg (by decide)]
    exact out

theorem splicelaw03_SpanParts_true (a b : List api_Span) : splicelaw03_SpanParts a b = some true := by
  have out : splicelaw03_SpanParts.j1 a b true = some true := by
    unfold splicelaw03_SpanParts.j1
    rw [if_pos rfl, awake_true]
    rfl
  have out2 : ∀ v w, splicelaw03_SpanParts.j2 a b v w true = some true := by
    intro v w
    unfold splicelaw03_SpanParts.j2
    rw [if_pos rfl, awake_true]
    rfl
  unfold splicelaw03_SpanParts
  rw [few_eq, few_eq]
  by_cases ha : a.length ≤ 200
  · rw [decide_eq_true ha, if_pos rfl]
    by_cases hb : b.length ≤ 200
    · rw [decide_eq_true hb]
      show splicelaw03_SpanParts.j1 a b false = some true
      unfold splicelaw03_SpanParts.j1
      obtain ⟨m, m1, m2, m3⟩ := meet_any a b ha hb
      obtain ⟨l, l1, l2, l3⟩ := less_any a b ha hb
      rw [if_neg (by decide), m1, Option.bind_some, l1, Option.bind_some]
      by_cases h1 : m.2 = 0
      · rw [if_pos h1]
        by_cases h2 : l.2 = 0
        · have e : (l.2 != 0) = false := by simp [h2]
          rw [e]
          unfold splicelaw03_SpanParts.j2
          obtain ⟨sa, sb, sm, hm⟩ := m3 h1
          obtain ⟨_, _, sl, hl⟩ := l3 h2
          have hun : ∀ k, (mem (m.1.map pa) k ∨ mem (l.1.map pa) k) ↔ mem (a.map pa) k := fun k => by
            rw [hm, hl]
            by_cases hk : mem (b.map pa) k <;> simp [hk]
          have hdis : ∀ k, ¬ (mem (m.1.map pa) k ∧ mem (l.1.map pa) k) := fun k => by
            rw [hm, hl]
            rintro ⟨⟨_, x⟩, _, y⟩
            exact y x
          obtain ⟨q, q1, q2⟩ := alike_eq a a (by omega) (by omega)
          obtain ⟨t, t1, t2⟩ := touch_eq m.1 l.1 (by omega) (by omega)
          obtain ⟨w, w1, w2⟩ := within_eq m.1 b (by omega) (by omega)
          obtain ⟨u, u1, u2⟩ := within_eq m.1 a (by omega) (by omega)
          have tf : t = false := by
            cases t with
            | false => rfl
            | true =>
              obtain ⟨_, _, k, hk⟩ := t2.1 rfl
              exact absurd hk (hdis k)
          subst tf
          have hsum := size_two (j := a.map pa) (m := []) sa.1 Canon.nil sm.1 sl.1 (fun k => (hun k).symm) (fun k => ⟨fun h => absurd h mem_nil, fun h => absurd h (hdis k)⟩)
          have b1 := size_set sa
          rw [if_neg (by decide), res_set (join_good sm sl) sa hun, Option.bind_some, awake_true, Option.bind_some, if_pos rfl, if_pos rfl, q1, Option.bind_some, q2.2 rfl, if_pos rfl, t1, Option.bind_some, if_neg (by decide), count_eq sm, Option.bind_some, count_eq sl, Option.bind_some, count_eq sa, Option.bind_some]
          have h0 : size [] = 0 := rfl
          rw [if_pos (by rw [wr (by omega)]; omega), w1, Option.bind_some, w2.2 ⟨sm, sb, fun k hk => ((hm k).1 hk).2⟩, if_pos rfl, u1, Option.bind_some, u2.2 ⟨sm, sa, fun k hk => ((hm k).1 hk).1⟩]
          rfl
        · have e : (l.2 != 0) = true := by simp [h2]
          rw [e]; exact out2 _ _
      · rw [if_neg h1]; exact out2 _ _
    · rw [decide_eq_false hb]
      exact out
  · rw [decide_eq_false ha, if_neg (by decide)]
    exact out
end Go.SyP
