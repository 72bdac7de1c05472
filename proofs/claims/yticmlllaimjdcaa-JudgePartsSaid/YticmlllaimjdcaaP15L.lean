/- The first laws of judge are true of the plain functions. -/
import Derived.Test.YticmlllaimjdcaaP15K
set_option linter.unusedVariables false
set_option linter.unusedSimpArgs false
namespace Go.SyP
open Go Go.Sy Sets

theorem few15 (l : List api_Entry) : ∃ r, splicelaw15_fewEntries l = some r ∧ (r = true → Few l) := by
  unfold splicelaw15_fewEntries
  refine for_post (n := l.length) (fun i (_ : Unit) => splicelaw15_fewEntries.S.l1 (i : Int)) (fun i _ => i ≤ 61 ∧ ∀ e ∈ l.take i, e.M.Pairs.length ≤ 20) _ ?_ ?_ 0 () (Nat.zero_le _) (by simp)
  · rintro _ ⟨h1, h2⟩
    rw [take_all (Nat.le_refl _)] at h2
    exact ⟨true, by simp [splicelaw15_fewEntries.step, splicelaw15_fewEntries.l1], fun _ => ⟨h1, h2⟩⟩
  · rintro i _ hi ⟨h1, h2⟩
    have hstep : (0 : Int) ≤ (i : Int) ∧ (i : Int) < (l.length : Int) := by omega
    have hx := take_at (l := l) (z := api_Entry.z) hi
    have hw : IntKind.wrap .i64 ((i : Int) + 1) = ((i + 1 : Nat) : Int) := by rw [wr (by omega)]; omega
    simp only [splicelaw15_fewEntries.step, splicelaw15_fewEntries.l1, splicelaw15_fewEntries.j1, hstep.2, if_true, hstep, and_self, show (i : Int).toNat = i from rfl, hw]
    by_cases h60 : (i : Int) > 60
    · right
      exact ⟨false, by rw [if_pos h60], by simp⟩
    · rw [if_neg h60]
      by_cases h20 : ((l.getD i api_Entry.z).M.Pairs.length : Int) > 20
      · right
        exact ⟨false, by rw [decide_eq_true h20]; rfl, by simp⟩
      · left
        refine ⟨(), by rw [decide_eq_false h20]; rfl, by omega, fun e he => ?_⟩
        rw [hx] at he
        rcases List.mem_append.1 he with h | h
        · exact h2 e h
        · simp only [List.mem_singleton] at h
          subst h
          omega

/-! ### The page's example -/
theorem tb5 {v : Int} (h : -1099511627776 ≤ v ∧ v ≤ 1099511627776) : Tb [⟨5, v⟩] := ⟨fun x hx => by simp at hx; subst hx; exact ⟨by show (0 : Int) ≤ 5; decide, by show (5 : Int) < 4096; decide, h.1, h.2⟩, by simp [Up]⟩
theorem s09 : SOk [⟨0, 9⟩] := SOk_one (by decide)
theorem ap1 : apD [⟨0, 9⟩] [] ⟨1, 1, 1, [⟨5, 1⟩], ⟨0, 0⟩, 0⟩ = ([⟨5, 1⟩], true) :=
  apD_is (by decide) (by decide) Tb.nil (by decide) s09 ⟨fun _ => ⟨by simp [Up], fun j => by
    unfold stepK touB cellO
    by_cases hj : j = 5
    · subst hj
      rw [hasB_one (by decide)]
      simp [look]
    · simp [look, if_neg (show ¬ (5 : Int) = j from fun e => hj e.symm)]⟩, fun h => by cases h⟩
theorem ap3 {v w : Int} (h : 0 ≤ v ∧ 0 ≤ w ∧ v + w ≤ 1099511627776) : apD [⟨0, 9⟩] [⟨5, v⟩] ⟨1, 3, 3, [⟨5, w⟩], ⟨0, 0⟩, 0⟩ = ([⟨5, v + w⟩], true) :=
  apD_is (by simp) (by simp) (tb5 (by omega)) (by
    have hw : okP ⟨5, w⟩ := ⟨by show (0 : Int) ≤ 5; decide, by show (5 : Int) < 4096; decide, by show _ ≤ w; omega, by show w ≤ _; omega⟩
    have : prs [⟨5, w⟩] = true := prs_iff.2 (fun x hx => by simp at hx; subst hx; exact hw)
    simp [mOk, kindB, prsN, this]) s09 ⟨fun _ => ⟨by simp [Up], fun j => by
    unfold stepK touB cellO
    by_cases hj : j = 5
    · subst hj
      rw [hasB_one (by decide)]
      simp [look]
      omega
    · simp [look, if_neg (show ¬ (5 : Int) = j from fun e => hj e.symm)]⟩, fun h => by cases h⟩
theorem awake15 : splicelaw15_awake = some true := by
  have hm : ∀ k v, (k = 1 ∨ k = 3) → (v = 1 ∨ v = 2 ∨ v = 4) → mOk ⟨1, k, k, [⟨5, v⟩], ⟨0, 0⟩, 0⟩ = true := by
    rintro k v (rfl | rfl) (rfl | rfl | rfl) <;> decide
  have hfew : Few [⟨⟨1, 1, 1, [⟨5, 1⟩], ⟨0, 0⟩, 0⟩, 3, true⟩, ⟨⟨1, 3, 3, [⟨5, 2⟩], ⟨0, 0⟩, 0⟩, 4, true⟩] := ⟨by decide, by simp⟩
  have hok : okE [⟨⟨1, 1, 1, [⟨5, 1⟩], ⟨0, 0⟩, 0⟩, 3, true⟩, ⟨⟨1, 3, 3, [⟨5, 2⟩], ⟨0, 0⟩, 0⟩, 4, true⟩] = true := by decide
  unfold splicelaw15_awake splicelaw15_one
  simp only [bnd]
  rw [Fold_good 3 hfew (by decide) s09 hok, Option.bind_some, Fold_good 9 hfew (by decide) s09 hok, Option.bind_some]
  have e1 : foldM [⟨0, 9⟩] [] (sel 3 [⟨⟨1, 1, 1, [⟨5, 1⟩], ⟨0, 0⟩, 0⟩, 3, true⟩, ⟨⟨1, 3, 3, [⟨5, 2⟩], ⟨0, 0⟩, 0⟩, 4, true⟩]) = [⟨5, 1⟩] := by
    show (apD [⟨0, 9⟩] [] _).1 = _
    rw [ap1]
  have e2 : foldM [⟨0, 9⟩] [] (sel 9 [⟨⟨1, 1, 1, [⟨5, 1⟩], ⟨0, 0⟩, 0⟩, 3, true⟩, ⟨⟨1, 3, 3, [⟨5, 2⟩], ⟨0, 0⟩, 0⟩, 4, true⟩]) = [⟨5, 3⟩] := by
    show (apD [⟨0, 9⟩] (apD [⟨0, 9⟩] [] ⟨1, 1, 1, [⟨5, 1⟩], ⟨0, 0⟩, 0⟩).1 ⟨1, 3, 3, [⟨5, 2⟩], ⟨0, 0⟩, 0⟩).1 = _
    rw [ap1, ap3 (by decide)]
    rfl
  rw [e1, e2, Onto_good (by decide) (by simp) (by decide) (tb5 (by decide)) s09 (by decide), Option.bind_some]
  have e3 : foldM [⟨0, 9⟩] [⟨5, 3⟩] [⟨1, 3, 3, [⟨5, 4⟩], ⟨0, 0⟩, 0⟩] = [⟨5, 7⟩] := by
    show (apD [⟨0, 9⟩] _ _).1 = _
    rw [ap3 (by decide)]
    rfl
  rw [e3]
  obtain ⟨r, c1, c2⟩ := Clients_eq [⟨⟨1, 1, 1, [⟨5, 1⟩], ⟨0, 0⟩, 0⟩, 3, true⟩, ⟨⟨1, 3, 3, [⟨5, 2⟩], ⟨0, 0⟩, 0⟩, 4, true⟩] (by decide)
  have hr : r = true := c2.2 (fun j i h1 h2 => by
    have : j = 0 ∧ i = 1 := by simp at h2; omega
    obtain ⟨rfl, rfl⟩ := this
    decide)
  rw [c1, hr]
  simp [splicelaw15_awake.j1]
theorem out15 : ((splicelaw15_awake).bind fun v => some v) = some true := by rw [awake15]; rfl

theorem splicelaw15_JudgeFolds_true (l : List api_Entry) (on : List api_Span) (mark : Int) : splicelaw15_JudgeFolds l on mark = some true := by
  obtain ⟨r, c1, c2⟩ := few15 l
  have jt : splicelaw15_JudgeFolds.j1 l on mark true = some true := by
    unfold splicelaw15_JudgeFolds.j1
    rw [if_pos rfl]
    exact out15
  unfold splicelaw15_JudgeFolds
  rw [c1, Option.bind_some]
  cases hr : r with
  | false => exact jt
  | true =>
    have hf := c2 hr
    have hl := hf.len
    rw [if_pos rfl]
    by_cases ho : (on.length : Int) > 100
    · rw [decide_eq_true ho]
      exact jt
    · rw [decide_eq_false ho]
      have ho : on.length ≤ 5000 := by omega
      unfold splicelaw15_JudgeFolds.j1
      rw [if_neg (by decide), awake15, Option.bind_some, if_pos rfl]
      obtain ⟨t, e1, e2, e3⟩ : ∃ t : List api_Pair, judge_Fold l on mark = some t ∧ spliceref15_Fold (l.map trE) (on.map toR) mark = some (t.map tr) ∧ t.length ≤ 5000 := by
        by_cases hg : SOk on ∧ okE l = true
        · refine ⟨_, Fold_good mark hf ho hg.1 hg.2, (ref_Fold_eq mark hf ho).1 hg, ?_⟩
          have := (judge_Fold_loop l on mark hf ho hg.1 hg.2).2.2
          omega
        · exact ⟨[], Fold_bad mark hf ho hg, (ref_Fold_eq mark hf ho).2 hg, by simp⟩
      rw [e1, Option.bind_some, Refs5_eq t e3, Option.bind_some, Entries_eq l (by omega) (fun e he => by have := hf.prs e he; omega), Option.bind_some, Refs_eq on ho, Option.bind_some, e2, Option.bind_some, same5_refl t e3]
      rfl

theorem splicelaw15_JudgeClients_true (l : List api_Entry) : splicelaw15_JudgeClients l = some true := by
  obtain ⟨r, c1, c2⟩ := few15 l
  unfold splicelaw15_JudgeClients
  rw [c1, Option.bind_some]
  cases hr : r with
  | false => exact out15
  | true =>
    have hf := c2 hr
    have hl := hf.len
    obtain ⟨a, d1, d2⟩ := Clients_eq l (by omega)
    obtain ⟨b, d3, d4⟩ := ref_Clients_eq l (by omega)
    have hab : b = a := by rw [Bool.eq_iff_iff, d2, d4]
    rw [if_pos rfl, awake15, Option.bind_some, if_pos rfl, d1, Option.bind_some, Entries_eq l (by omega) (fun e he => by have := hf.prs e he; omega), Option.bind_some, d3, hab]
    simp [splicelaw15_JudgeClients.j1]

theorem splicelaw15_JudgeOntos_true (base : List api_Pair) (l : List api_Mut) (on : List api_Span) : splicelaw15_JudgeOntos base l on = some true := by
  have jt : splicelaw15_JudgeOntos.j1 base l on true = some true := by
    unfold splicelaw15_JudgeOntos.j1
    rw [if_pos rfl]
    exact out15
  unfold splicelaw15_JudgeOntos
  by_cases h1 : (base.length : Int) > 100
  · rw [if_pos h1]
    exact jt
  · by_cases h2 : (l.length : Int) > 60
    · rw [if_neg h1, if_pos h2]
      exact jt
    · rw [if_neg h1, if_neg h2]
      by_cases h3 : (on.length : Int) > 100
      · rw [decide_eq_true h3]
        exact jt
      · rw [decide_eq_false h3]
        have ho : on.length ≤ 5000 := by omega
        unfold splicelaw15_JudgeOntos.j1
        rw [if_neg (by decide)]
        obtain ⟨r, e1, e2⟩ : ∃ r, goLoop (splicelaw15_JudgeOntos.step base l on) (.l1 0 []) = some r ∧ r = true := by
          refine for_post (n := l.length) (fun i x => splicelaw15_JudgeOntos.S.l1 (i : Int) x) (fun i x => x = (l.take i).map trM ∧ ∀ m ∈ l.take i, m.Pairs.length ≤ 20) _ ?_ ?_ 0 [] (Nat.zero_le _) (by simp)
          · rintro x ⟨rfl, hp⟩
            rw [take_all (Nat.le_refl _)] at hp ⊢
            refine ⟨true, ?_, rfl⟩
            simp only [splicelaw15_JudgeOntos.step, splicelaw15_JudgeOntos.l1, Int.lt_irrefl, if_false, awake15, Option.bind_some, if_true]
            obtain ⟨t, e1, e2, e3⟩ : ∃ t : List api_Pair, judge_Onto base l on = some t ∧ spliceref15_Onto (base.map tr) (l.map trM) (on.map toR) = some (t.map tr) ∧ t.length ≤ 5000 := by
              by_cases hg : Tb base ∧ SOk on ∧ okM l = true
              · refine ⟨_, Onto_good (by omega) hp ho hg.1 hg.2.1 hg.2.2, ref_Onto_good (by omega) hp ho hg.1 hg.2.1 hg.2.2, ?_⟩
                have := (foldM_ok ho hg.2.1 (ms := l) hg.1 (fun m hm => List.all_eq_true.1 hg.2.2 m hm) (by omega)).2
                omega
              · exact ⟨[], Onto_bad (by omega) (by omega) hp ho hg, ref_Onto_bad (by omega) (by omega) hp ho hg, by simp⟩
            rw [e1, Option.bind_some, Refs5_eq t e3, Option.bind_some, Refs5_eq base (by omega), Option.bind_some, Refs_eq on ho, Option.bind_some, e2, Option.bind_some, same5_refl t e3]
            rfl
          · rintro i x hi ⟨rfl, hp⟩
            have hstep : (0 : Int) ≤ (i : Int) ∧ (i : Int) < (l.length : Int) := by omega
            have hx := take_at (l := l) (z := api_Mut.z) hi
            simp only [splicelaw15_JudgeOntos.step, splicelaw15_JudgeOntos.l1, hstep.2, if_true, hstep, and_self, show (i : Int).toNat = i from rfl, wr1 hi (by omega : l.length ≤ 9223372036854775807)]
            by_cases h20 : ((l.getD i api_Mut.z).Pairs.length : Int) > 20
            · right
              exact ⟨true, by rw [if_pos h20, awake15]; rfl, rfl⟩
            · left
              rw [if_neg h20, RefM_eq _ (by omega), Option.bind_some, if_pos (by simp; omega)]
              refine ⟨_, rfl, by rw [hx]; simp, fun m hm => ?_⟩
              rw [hx] at hm
              rcases List.mem_append.1 hm with h | h
              · exact hp m h
              · simp only [List.mem_singleton] at h
                subst h
                omega
        rw [e1, e2]

/-! ### A fold goes on -/
def SortedE (l : List api_Entry) : Prop := l.Pairwise fun x y => x.Time ≤ y.Time
def isBet (a b : Int) (e : api_Entry) : Bool := e.Done && (decide (a < e.Time) && decide (e.Time ≤ b))
theorem sel_split {a b : Int} (hab : a ≤ b) : ∀ {l : List api_Entry}, SortedE l → sel b l = sel a l ++ (l.filter (isBet a b)).map (·.M)
  | [], _ => rfl
  | e :: l, h => by
    obtain ⟨h1, h2⟩ := List.pairwise_cons.1 h
    have ih := sel_split hab h2
    unfold sel at ih ⊢
    rw [List.filter_cons, List.filter_cons, List.filter_cons]
    by_cases hd : e.Done = true
    · by_cases ha : e.Time ≤ a
      · rw [if_pos (show isIn b e = true by unfold isIn; rw [hd, decide_eq_true (by omega)]; rfl), if_pos (show isIn a e = true by unfold isIn; rw [hd, decide_eq_true ha]; rfl),
          if_neg (show ¬ isBet a b e = true by unfold isBet; rw [decide_eq_false (show ¬ a < e.Time by omega)]; simp), List.map_cons, List.map_cons, List.cons_append, ih]
      · have none : l.filter (isIn a) = [] := by
          rw [List.filter_eq_nil_iff]
          intro x hx
          have := h1 x hx
          unfold isIn
          rw [decide_eq_false (show ¬ x.Time ≤ a by omega)]
          simp
        rw [none, List.map_nil, List.nil_append] at ih
        rw [if_neg (show ¬ isIn a e = true by unfold isIn; rw [decide_eq_false ha]; simp), none, List.map_nil, List.nil_append]
        by_cases hb : e.Time ≤ b
        · rw [if_pos (show isIn b e = true by unfold isIn; rw [hd, decide_eq_true hb]; rfl), if_pos (show isBet a b e = true by unfold isBet; rw [hd, decide_eq_true (show a < e.Time by omega), decide_eq_true hb]; rfl), List.map_cons, List.map_cons, ih]
        · rw [if_neg (show ¬ isIn b e = true by unfold isIn; rw [decide_eq_false hb]; simp), if_neg (show ¬ isBet a b e = true by unfold isBet; rw [decide_eq_false hb]; simp), ih]
    · rw [if_neg (show ¬ isIn b e = true by unfold isIn; simp [hd]), if_neg (show ¬ isIn a e = true by unfold isIn; simp [hd]), if_neg (show ¬ isBet a b e = true by unfold isBet; simp [hd]), ih]
theorem sorted_snoc {l : List api_Entry} {i : Nat} (h : SortedE (l.take i)) (hi : i < l.length) (hs : 0 < i → (l.getD (i - 1) api_Entry.z).Time ≤ (l.getD i api_Entry.z).Time) : SortedE (l.take (i + 1)) := by
  rw [take_at (z := api_Entry.z) hi]
  refine List.pairwise_append.2 ⟨h, by simp, fun x hx y hy => ?_⟩
  simp only [List.mem_singleton] at hy
  subst hy
  rcases Nat.eq_zero_or_pos i with h0 | h0
  · subst h0
    simp at hx
  · have e : l.take i = l.take (i - 1) ++ [l.getD (i - 1) api_Entry.z] := by
      have := take_at (l := l) (z := api_Entry.z) (i := i - 1) (by omega)
      rwa [show i - 1 + 1 = i by omega] at this
    have hs := hs h0
    unfold SortedE at h
    rw [e] at h hx
    have hp := List.pairwise_append.1 h
    rcases List.mem_append.1 hx with hx | hx
    · have := hp.2.2 x hx _ (List.mem_singleton_self _)
      omega
    · simp only [List.mem_singleton] at hx
      subst hx
      exact hs

theorem splicelaw15_JudgeGoesOn_true (l : List api_Entry) (on : List api_Span) (mk : arr2_int) : splicelaw15_JudgeGoesOn l on mk = some true := by
  obtain ⟨r, c1, c2⟩ := few15 l
  have jt : splicelaw15_JudgeGoesOn.j1 l on mk true = some true := by
    unfold splicelaw15_JudgeGoesOn.j1
    rw [if_pos rfl]
    exact out15
  unfold splicelaw15_JudgeGoesOn
  rw [c1, Option.bind_some]
  cases hr : r with
  | false => exact jt
  | true =>
    have hf := c2 hr
    have hl := hf.len
    rw [if_pos rfl]
    by_cases ho : (on.length : Int) > 100
    · rw [decide_eq_true ho]
      exact jt
    · rw [decide_eq_false ho]
      have ho : on.length ≤ 5000 := by omega
      unfold splicelaw15_JudgeGoesOn.j1
      rw [if_neg (by decide)]
      have hab : iMin mk.i0 mk.i1 ≤ iMax mk.i0 mk.i1 := by unfold iMin iMax; split <;> split <;> omega
      generalize ha : iMin mk.i0 mk.i1 = a at hab
      generalize hb : iMax mk.i0 mk.i1 = b at hab
      obtain ⟨r, e1, e2⟩ : ∃ r, goLoop (splicelaw15_JudgeGoesOn.step l on mk) (.l1 0 []) = some r ∧ r = true := by
        refine for_post (n := l.length) (fun i x => splicelaw15_JudgeGoesOn.S.l1 (i : Int) x) (fun i x => x = ((l.take i).filter (isBet a b)).map (·.M) ∧ okE (l.take i) = true ∧ SortedE (l.take i)) _ ?_ ?_ 0 [] (Nat.zero_le _) ⟨rfl, rfl, .nil⟩
        · rintro x ⟨rfl, hok, hsort⟩
          rw [take_all (Nat.le_refl _)] at hok hsort ⊢
          refine ⟨true, ?_, rfl⟩
          simp only [splicelaw15_JudgeGoesOn.step, splicelaw15_JudgeGoesOn.l1, Int.lt_irrefl, if_false, ha, hb]
          have hrest : ∀ m ∈ (l.filter (isBet a b)).map (·.M), m.Pairs.length ≤ 20 ∧ mOk m = true := by
            intro m hm
            obtain ⟨e, he, rfl⟩ := List.mem_map.1 hm
            have he := (List.mem_filter.1 he).1
            exact ⟨hf.prs e he, List.all_eq_true.1 hok e he⟩
          have hrl : ((l.filter (isBet a b)).map (·.M)).length ≤ 61 := by
            rw [List.length_map]
            have := List.length_filter_le (isBet a b) l
            omega
          have hrok : okM ((l.filter (isBet a b)).map (·.M)) = true := List.all_eq_true.2 fun m hm => (hrest m hm).2
          obtain ⟨t, e1, e2, e3⟩ : ∃ t : List api_Pair, ((judge_Fold l on a).bind fun v3 => judge_Onto v3 ((l.filter (isBet a b)).map (·.M)) on) = some t ∧ judge_Fold l on b = some t ∧ t.length ≤ 5000 := by
            by_cases hs : SOk on
            · have q := judge_Fold_loop l on a hf ho hs hok
              have q2 := judge_Fold_loop l on b hf ho hs hok
              refine ⟨_, ?_, Fold_good b hf ho hs hok, by have := q2.2.2; omega⟩
              rw [Fold_good a hf ho hs hok, Option.bind_some, Onto_good (by have := q.2.2; omega) (fun m hm => (hrest m hm).1) ho q.2.1 hs hrok, ← foldM_append, ← sel_split hab hsort]
            · refine ⟨[], ?_, Fold_bad b hf ho (fun h => hs h.1), by simp⟩
              rw [Fold_bad a hf ho (fun h => hs h.1), Option.bind_some]
              exact Onto_bad (by simp) (by omega) (fun m hm => (hrest m hm).1) ho (fun h => hs h.2.1)
          have e4 : ∀ (k : List api_Pair → Option (splicelaw15_JudgeGoesOn.S ⊕ Bool)), ((judge_Fold l on a).bind fun v3 => (judge_Onto v3 ((l.filter (isBet a b)).map (·.M)) on).bind k) = k t := fun k => by
            have : ((judge_Fold l on a).bind fun v3 => (judge_Onto v3 ((l.filter (isBet a b)).map (·.M)) on).bind k) = ((judge_Fold l on a).bind fun v3 => judge_Onto v3 ((l.filter (isBet a b)).map (·.M)) on).bind k := by
              cases judge_Fold l on a <;> rfl
            rw [this, e1, Option.bind_some]
          rw [e4, awake15, Option.bind_some, if_pos rfl, Refs5_eq t e3, Option.bind_some, e2, Option.bind_some, Refs5_eq t e3, Option.bind_some, same5_refl t e3]
          rfl
        · rintro i x hi ⟨rfl, hok, hsort⟩
          have hstep : (0 : Int) ≤ (i : Int) ∧ (i : Int) < (l.length : Int) := by omega
          have hx := take_at (l := l) (z := api_Entry.z) hi
          have hp := hf.prs _ (getD_in (z := api_Entry.z) hi)
          have hlen : (((l.take i).filter (isBet a b)).map (·.M)).length ≤ i := by
            rw [List.length_map]
            have := List.length_filter_le (isBet a b) (l.take i)
            rw [List.length_take] at this
            omega
          simp only [splicelaw15_JudgeGoesOn.step, splicelaw15_JudgeGoesOn.l1, hstep.2, if_true, hstep, and_self, show (i : Int).toNat = i from rfl, RefM_eq _ (by omega : (l.getD i api_Entry.z).M.Pairs.length ≤ 5000), Option.bind_some, ref_Check_eq _ (by omega : (l.getD i api_Entry.z).M.Pairs.length ≤ 5000)]
          have bad : ∃ r, splicelaw15_JudgeGoesOn.j3 l mk (i : Int) (((l.take i).filter (isBet a b)).map (·.M)) true = some (.inr r) ∧ r = true := ⟨true, by unfold splicelaw15_JudgeGoesOn.j3; rw [if_pos rfl, awake15]; rfl, rfl⟩
          by_cases hm : mOk (l.getD i api_Entry.z).M = true
          · rw [if_pos hm]
            have good : ∃ y, splicelaw15_JudgeGoesOn.j3 l mk (i : Int) (((l.take i).filter (isBet a b)).map (·.M)) false = some (.inl (.l1 ((i + 1 : Nat) : Int) y)) ∧ y = ((l.take (i + 1)).filter (isBet a b)).map (·.M) := by
              refine ⟨_, ?_, rfl⟩
              rw [hx, List.filter_append, List.map_append, List.filter_cons, List.filter_nil]
              unfold splicelaw15_JudgeGoesOn.j3 splicelaw15_JudgeGoesOn.j4 splicelaw15_JudgeGoesOn.j5
              simp only [Bool.false_eq_true, if_false, ha, hb, show (i : Int).toNat = i from rfl, decide_eq_true_eq, wr1 hi (by omega : l.length ≤ 9223372036854775807)]
              unfold isBet
              generalize l.getD i api_Entry.z = e
              by_cases hd : e.Done = true
              · rw [if_pos hd, hd, Bool.true_and]
                by_cases h1 : e.Time > a
                · rw [if_pos h1, decide_eq_true (show a < e.Time from h1), Bool.true_and]
                  by_cases h2 : e.Time ≤ b
                  · rw [if_pos h2, decide_eq_true h2, if_pos rfl, if_pos (by unfold isBet at hlen; omega)]
                    rfl
                  · rw [if_neg h2, decide_eq_false h2, if_neg (by decide), List.map_nil, List.append_nil]
                · rw [if_neg h1, decide_eq_false (show ¬ a < e.Time from h1), Bool.false_and, if_neg (by decide), List.map_nil, List.append_nil]
              · rw [if_neg hd, if_neg (by simp [hd]), List.map_nil, List.append_nil]
            have hok' : okE (l.take (i + 1)) = true := by
              rw [hx]
              unfold okE at hok ⊢
              rw [List.all_append, hok]
              simp only [List.all_cons, List.all_nil, Bool.and_true, Bool.true_and]
              exact hm
            by_cases h0 : (i : Int) > 0
            · have hw : IntKind.wrap .i64 ((i : Int) - 1) = ((i - 1 : Nat) : Int) := by rw [wr (by omega)]; omega
              rw [if_pos h0, hw, if_pos (by omega)]
              simp only [show ((i - 1 : Nat) : Int).toNat = i - 1 from rfl]
              by_cases ht : (l.getD i api_Entry.z).Time < (l.getD (i - 1) api_Entry.z).Time
              · rw [decide_eq_true ht]
                exact .inr bad
              · rw [decide_eq_false ht]
                obtain ⟨y, g1, g2⟩ := good
                exact .inl ⟨y, g1, g2, hok', sorted_snoc hsort hi fun _ => by omega⟩
            · rw [if_neg h0]
              obtain ⟨y, g1, g2⟩ := good
              exact .inl ⟨y, g1, g2, hok', sorted_snoc hsort hi fun _ => by omega⟩
          · rw [if_neg hm]
            exact .inr bad
      rw [e1, e2]
end Go.SyP
