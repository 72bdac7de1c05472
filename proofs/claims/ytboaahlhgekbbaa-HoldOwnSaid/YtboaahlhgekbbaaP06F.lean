/- Hold: what the document's functions come to. -/
import Derived.Test.YtboaahlhgekbbaaP06E
import Derived.Test.YtboaahlhgekbbaaP06V
set_option linter.unusedVariables false
set_option linter.unusedSimpArgs false
namespace Go.SyP
open Go Go.Sy

theorem mutR_ext {a b : spliceref04_Mut} : a = b ↔ a.Client = b.Client ∧ a.Seq = b.Seq ∧ a.Kind = b.Kind ∧ a.Over.Lo = b.Over.Lo ∧ a.Over.Hi = b.Over.Hi ∧ a.Old = b.Old ∧ a.Pairs = b.Pairs := by
  constructor
  · rintro rfl; exact ⟨rfl, rfl, rfl, rfl, rfl, rfl, rfl⟩
  · rintro ⟨h1, h2, h3, h4, h5, h6, h7⟩
    cases a; cases b
    rename_i o1 _ _ _ _ _ o2 _
    cases o1; cases o2
    simp only at h1 h2 h3 h4 h5 h6 h7
    rw [h1, h2, h3, h4, h5, h6, h7]
theorem ref_Same_loop (a b : spliceref04_Mut) (hn : a.Pairs.length ≤ 5000) (hl : a.Pairs.length = b.Pairs.length) : ∃ r, goLoop (spliceref04_Same.step a b) (.l1 0) = some r ∧ (r = true ↔ a.Pairs = b.Pairs) := by
  refine for_post (n := a.Pairs.length) (fun i (_ : Unit) => spliceref04_Same.S.l1 (i : Int)) (fun i _ => a.Pairs.take i = b.Pairs.take i) _ ?_ ?_ 0 () (Nat.zero_le _) (by simp)
  · intro _ h
    rw [take_all (Nat.le_refl _), take_all (by omega)] at h
    exact ⟨true, by simp [spliceref04_Same.step, spliceref04_Same.l1], by simp [h]⟩
  · intro i _ hi h
    have hstep : (0 : Int) ≤ (i : Int) ∧ (i : Int) < (a.Pairs.length : Int) := by omega
    have hstep2 : (0 : Int) ≤ (i : Int) ∧ (i : Int) < (b.Pairs.length : Int) := by omega
    have hx := take_atI (l := a.Pairs) (z := spliceref04_Pair.z) hi
    have hy := take_atI (l := b.Pairs) (z := spliceref04_Pair.z) (i := i) (by omega)
    simp only [spliceref04_Same.step, spliceref04_Same.l1, hstep.2, if_true, hstep, hstep2, and_self, wr1 hi (by omega : a.Pairs.length ≤ 9223372036854775807)]
    generalize a.Pairs.getD (i : Int).toNat spliceref04_Pair.z = X at hx ⊢
    generalize b.Pairs.getD (i : Int).toNat spliceref04_Pair.z = Y at hy ⊢
    by_cases hXY : X = Y
    · left
      subst hXY
      exact ⟨(), by simp, by rw [hx, hy, h]⟩
    · right
      have hne : a.Pairs ≠ b.Pairs := by
        intro e
        rw [e] at hx h
        rw [hx] at hy
        exact hXY (by simpa using hy)
      refine ⟨false, ?_, by simp [hne]⟩
      by_cases h1 : X.Key = Y.Key
      · by_cases h2 : X.Val = Y.Val
        · exact absurd (by cases X; cases Y; simp only at h1 h2; subst h1; subst h2; rfl) hXY
        · rw [if_pos h1, if_neg h2]
      · rw [if_neg h1]
        split <;> rfl
theorem ref_Same_eq (a b : spliceref04_Mut) (hn : a.Pairs.length ≤ 5000) : ∃ r, spliceref04_Same a b = some r ∧ (r = true ↔ a = b) := by
  unfold spliceref04_Same
  rw [mutR_ext]
  have jt : spliceref04_Same.j1 a b true = some false := rfl
  by_cases h1 : a.Client = b.Client
  · by_cases h2 : a.Seq = b.Seq
    · by_cases h3 : a.Kind = b.Kind
      · by_cases h4 : a.Over.Lo = b.Over.Lo
        · by_cases h5 : a.Over.Hi = b.Over.Hi
          · by_cases h6 : a.Old = b.Old
            · rw [if_pos h1, if_pos h2, if_pos h3, if_pos h4, if_pos h5, if_pos h6]
              by_cases hl : a.Pairs.length = b.Pairs.length
              · rw [show ((a.Pairs.length : Int) != (b.Pairs.length : Int)) = false by simp [hl]]
                obtain ⟨r, e1, e2⟩ := ref_Same_loop a b hn hl
                exact ⟨r, e1, by rw [e2]; simp [h1, h2, h3, h4, h5, h6]⟩
              · rw [show ((a.Pairs.length : Int) != (b.Pairs.length : Int)) = true by simp; omega]
                exact ⟨false, jt, by simp; intro _ _ _ _ _ _ h; exact hl (by rw [h])⟩
            · exact ⟨false, by rw [if_pos h1, if_pos h2, if_pos h3, if_pos h4, if_pos h5, if_neg h6, jt], by simp [h6]⟩
          · exact ⟨false, by rw [if_pos h1, if_pos h2, if_pos h3, if_pos h4, if_neg h5, jt], by simp [h5]⟩
        · exact ⟨false, by rw [if_pos h1, if_pos h2, if_pos h3, if_neg h4, jt]; split <;> rfl, by simp [h4]⟩
      · exact ⟨false, by rw [if_pos h1, if_pos h2, if_neg h3, jt], by simp [h3]⟩
    · exact ⟨false, by rw [if_pos h1, if_neg h2, jt], by simp [h2]⟩
  · exact ⟨false, by rw [if_neg h1, jt], by simp [h1]⟩

def trH (h : api_Held) : spliceref06_Held := ⟨trM h.M, h.Time, h.Final⟩
theorem Ref_eq (h : api_Held) (hp : h.M.Pairs.length ≤ 5000) : splicelaw06_Ref h = some (trH h) := by
  unfold splicelaw06_Ref
  rw [RefM_eq h.M hp, Option.bind_some]
  rfl
theorem trH_at (L : List api_Held) {i : Nat} (hi : i < L.length) : (L.map trH).getD i spliceref06_Held.z = trH (L.getD i api_Held.z) := by
  simp [List.getD_eq_getElem?_getD, hi]
theorem take_atD {α : Type} {l : List α} {z : α} {i : Nat} (h : i < l.length) : l.take (i + 1) = l.take i ++ [l.getD i z] := take_at h
theorem Refs_eq (L : List api_Held) (hn : L.length ≤ 1000000) (hs : ∀ h ∈ L, h.M.Pairs.length ≤ 5000) : splicelaw06_Refs L = some (L.map trH) := by
  unfold splicelaw06_Refs
  obtain ⟨r, h1, h2⟩ : ∃ r, goLoop (splicelaw06_Refs.step L) (.l1 0 []) = some r ∧ r = L.map trH := by
    refine for_post (n := L.length) (fun i x => splicelaw06_Refs.S.l1 (i : Int) x) (fun i x => x = (L.take i).map trH) _ ?_ ?_ 0 [] (Nat.zero_le _) (by simp)
    · rintro x rfl
      refine ⟨_, ?_, rfl⟩
      simp only [splicelaw06_Refs.step, splicelaw06_Refs.l1]
      rw [if_neg (by omega), List.take_of_length_le (Nat.le_refl _)]
    · rintro i x hi rfl
      left
      simp only [splicelaw06_Refs.step, splicelaw06_Refs.l1, Int.toNat_natCast]
      rw [if_pos (by omega), if_pos (by omega), Ref_eq _ (hs _ (getD_memH hi)), Option.bind_some, if_pos (by rw [List.length_map, List.length_take]; omega), wr1 hi (by omega)]
      refine ⟨_, rfl, ?_⟩
      rw [take_atH hi, List.map_append, List.map_singleton]
  rw [h1, h2]
theorem SameOne_refl (h : spliceref06_Held) (hp : h.M.Pairs.length ≤ 5000) : spliceref06_SameOne h h = some true := by
  unfold spliceref06_SameOne
  obtain ⟨r, h1, h2⟩ := ref_Same_eq h.M h.M hp
  rw [h1, Option.bind_some, if_pos (h2.2 rfl), if_pos rfl]
  simp [spliceref06_SameOne.j1]
theorem Same_refl (L : List api_Held) (hn : L.length ≤ 1000000) (hs : ∀ h ∈ L, h.M.Pairs.length ≤ 5000) : spliceref06_Same (L.map trH) (L.map trH) = some true := by
  unfold spliceref06_Same
  rw [if_pos rfl]
  obtain ⟨r, h1, h2⟩ : ∃ r, goLoop (spliceref06_Same.step (L.map trH) (L.map trH)) (.l1 0) = some r ∧ r = true := by
    refine for_post (n := L.length) (fun i (_ : Unit) => spliceref06_Same.S.l1 (i : Int)) (fun i x => True) _ ?_ ?_ 0 () (Nat.zero_le _) trivial
    · intro x _
      refine ⟨_, ?_, rfl⟩
      simp only [spliceref06_Same.step, spliceref06_Same.l1, List.length_map]
      rw [if_neg (by omega)]
    · intro i x hi _
      left
      simp only [spliceref06_Same.step, spliceref06_Same.l1, Int.toNat_natCast, List.length_map]
      rw [if_pos (by omega), if_pos (by omega), if_pos (by omega), trH_at L hi, SameOne_refl _ (by simpa [trH, trM] using hs _ (getD_memH hi)), Option.bind_some, if_pos rfl, wr1 hi (by omega)]
      exact ⟨(), rfl, trivial⟩
  rw [h1, h2]

/-! ### Finding, taking out, putting in -/
theorem ref_find (L : List api_Held) (hn : L.length ≤ 1000000) (c s : Int) :
    (spliceref06_find (L.map trH) c s = some (-1) ∧ ∀ h ∈ L, isK c s h = false) ∨ ∃ i : Nat, i < L.length ∧ spliceref06_find (L.map trH) c s = some (i : Int) ∧ isK c s (L.getD i api_Held.z) = true ∧ ∀ k, k < i → isK c s (L.getD k api_Held.z) = false := by
  unfold spliceref06_find
  obtain ⟨r, h1, h2⟩ : ∃ r, goLoop (spliceref06_find.step (L.map trH) c s) (.l1 0) = some r ∧ ((r = -1 ∧ ∀ h ∈ L, isK c s h = false) ∨ ∃ i : Nat, i < L.length ∧ r = (i : Int) ∧ isK c s (L.getD i api_Held.z) = true ∧ ∀ k, k < i → isK c s (L.getD k api_Held.z) = false) := by
    refine for_post (n := L.length) (fun i (_ : Unit) => spliceref06_find.S.l1 (i : Int)) (fun i _ => ∀ k, k < i → isK c s (L.getD k api_Held.z) = false) _ ?_ ?_ 0 () (Nat.zero_le _) (fun k hk => by omega)
    · intro _ hI
      refine ⟨-1, ?_, .inl ⟨rfl, fun h hh => ?_⟩⟩
      · simp only [spliceref06_find.step, spliceref06_find.l1, List.length_map]
        rw [if_neg (by omega)]
      · obtain ⟨k, hk, rfl⟩ := List.mem_iff_getElem.1 hh
        have := hI k hk
        simpa [hk] using this
    · intro i _ hi hI
      simp only [spliceref06_find.step, spliceref06_find.l1, List.length_map, Int.toNat_natCast]
      rw [if_pos (by omega), if_pos (by omega), trH_at L hi]
      have hj : ∀ b, b = isK c s (L.getD i api_Held.z) → ((∃ y : Unit, spliceref06_find.j1 (i : Int) b = some (.inl (.l1 ((i + 1 : Nat) : Int))) ∧ ∀ k, k < i + 1 → isK c s (L.getD k api_Held.z) = false) ∨
          ∃ r, spliceref06_find.j1 (i : Int) b = some (.inr r) ∧ ((r = -1 ∧ ∀ h ∈ L, isK c s h = false) ∨ ∃ i : Nat, i < L.length ∧ r = (i : Int) ∧ isK c s (L.getD i api_Held.z) = true ∧ ∀ k, k < i → isK c s (L.getD k api_Held.z) = false)) := by
        intro b hb
        cases b with
        | true => exact .inr ⟨i, rfl, .inr ⟨i, hi, rfl, hb.symm, hI⟩⟩
        | false =>
          refine .inl ⟨(), ?_, fun k hk => ?_⟩
          · simp only [spliceref06_find.j1, Bool.false_eq_true, if_false]
            rw [wr1 hi (by omega)]
          · by_cases e : k = i
            · rw [e]; exact hb.symm
            · exact hI k (by omega)
      have e1 : (trH (L.getD i api_Held.z)).M.Client = (L.getD i api_Held.z).M.Client := rfl
      have e2 : (trH (L.getD i api_Held.z)).M.Seq = (L.getD i api_Held.z).M.Seq := rfl
      rw [e1, e2]
      by_cases hc : (L.getD i api_Held.z).M.Client = c
      · rw [if_pos hc]
        exact hj _ (by unfold isK; rw [hc, beq_self_eq_true, Bool.true_and])
      · rw [if_neg hc]
        exact hj _ (by unfold isK; rw [beq_eq_false_iff_ne.2 hc, Bool.false_and])
  rcases h2 with ⟨rfl, h2⟩ | ⟨i, hi, rfl, h2⟩
  · exact .inl ⟨h1, h2⟩
  · exact .inr ⟨i, hi, h1, h2⟩

theorem split_at {L : List api_Held} {i : Nat} (hi : i < L.length) : L = L.take i ++ L.getD i api_Held.z :: L.drop (i + 1) := by
  rw [← drop_at hi, List.take_append_drop]
theorem del_split {c s : Int} {L : List api_Held} (hp : L.Pairwise apartK) {i : Nat} (hi : i < L.length) (hk : isK c s (L.getD i api_Held.z) = true) (hb : ∀ k, k < i → isK c s (L.getD k api_Held.z) = false) :
    delH c s L = L.take i ++ L.drop (i + 1) := by
  have hs := split_at hi
  generalize L.getD i api_Held.z = x at hk hs
  have hp2 := hp
  rw [hs] at hp2
  have hx := (List.pairwise_cons.1 (List.pairwise_append.1 hp2).2.1).1
  conv => lhs; rw [hs]
  simp only [delH, List.filter_append, List.filter_cons, hk, Bool.not_true, Bool.false_eq_true, if_false]
  congr 1
  · rw [List.filter_eq_self]
    intro y hy
    obtain ⟨k, hk', rfl⟩ := List.mem_iff_getElem.1 hy
    rw [List.length_take] at hk'
    have := hb k (by omega)
    have e : L.getD k api_Held.z = (L.take i)[k] := by
      rw [List.getElem_take]
      simp [show k < L.length by omega]
    rw [← e, this]
    rfl
  · rw [List.filter_eq_self]
    intro y hy
    cases e : isK c s y with
    | false => rfl
    | true =>
      rw [isK_iff] at e hk
      exact absurd ⟨hk.1.trans e.1.symm, hk.2.trans e.2.symm⟩ (hx y hy)

theorem ref_without (L : List api_Held) (hn : L.length ≤ 1000000) {i : Nat} (hi : i < L.length) : spliceref06_without (L.map trH) (i : Int) = some ((L.take i ++ L.drop (i + 1)).map trH) := by
  unfold spliceref06_without
  obtain ⟨r, h1, h2⟩ : ∃ r, goLoop (spliceref06_without.step (L.map trH) (i : Int)) (.l1 0 []) = some r ∧ r = (L.take i ++ L.drop (i + 1)).map trH := by
    refine for_post (n := L.length) (fun k x => spliceref06_without.S.l1 (k : Int) x) (fun k x => x = (if k ≤ i then L.take k else L.take i ++ (L.take k).drop (i + 1)).map trH) _ ?_ ?_ 0 [] (Nat.zero_le _) (by simp)
    · rintro x rfl
      refine ⟨_, ?_, rfl⟩
      simp only [spliceref06_without.step, spliceref06_without.l1, List.length_map]
      rw [if_neg (by omega), if_neg (by omega), List.take_of_length_le (Nat.le_refl _)]
    · rintro k x hk rfl
      left
      simp only [spliceref06_without.step, spliceref06_without.l1, List.length_map, Int.toNat_natCast]
      rw [if_pos (by omega)]
      have hw : IntKind.wrap .i64 ((k : Int) + 1) = ((k + 1 : Nat) : Int) := wr1 hk (by omega)
      by_cases e : k = i
      · subst e
        rw [if_pos rfl]
        refine ⟨_, ?_, rfl⟩
        simp only [spliceref06_without.j1, hw]
        rw [if_pos (Nat.le_refl _), if_neg (by omega), List.drop_of_length_le (by rw [List.length_take]; omega), List.append_nil]
      · rw [if_neg (by omega), if_pos (by omega), if_pos (by have : (if k ≤ i then L.take k else L.take i ++ (L.take k).drop (i + 1)).length ≤ 1000000 + k := (by split <;> simp <;> omega); omega), trH_at L hk]
        refine ⟨_, ?_, rfl⟩
        simp only [spliceref06_without.j1, hw]
        by_cases h : k < i
        · rw [if_pos (by omega), if_pos (by omega), take_atH hk, List.map_append, List.map_singleton]
        · rw [if_neg (by omega), if_neg (by omega), take_atH hk, List.drop_append_of_le_length (by rw [List.length_take]; omega)]
          simp only [List.map_append, List.map_cons, List.map_nil, List.append_assoc]
  rw [h1, h2]

theorem insH_none {h : api_Held} {A B : List api_Held} (hA : ∀ a ∈ A, ¬ ltH h a) : insH h (A ++ B) = A ++ insH h B := by
  induction A with
  | nil => rfl
  | cons a A ih =>
    rw [List.cons_append, insH, if_neg (hA a (List.mem_cons_self ..)), ih fun x hx => hA x (List.mem_cons_of_mem _ hx)]
    rfl
theorem insH_some {h : api_Held} {A B : List api_Held} (hA : ∃ a ∈ A, ltH h a) : insH h (A ++ B) = insH h A ++ B := by
  induction A with
  | nil => obtain ⟨a, ha, _⟩ := hA; cases ha
  | cons a A ih =>
    by_cases hl : ltH h a
    · rw [List.cons_append, insH, insH, if_pos hl, if_pos hl]
      rfl
    · rw [List.cons_append, insH, insH, if_neg hl, if_neg hl, ih]
      · rfl
      · obtain ⟨x, hx, hlx⟩ := hA
        rcases List.mem_cons.1 hx with rfl | hx
        · exact absurd hlx hl
        · exact ⟨x, hx, hlx⟩
theorem Ahead_eq (a b : api_Held) : spliceref04_Ahead (spliceref06_stamp (trH a)) (spliceref06_stamp (trH b)) = decide (ltH a b) := by
  unfold spliceref04_Ahead spliceref06_stamp
  simp only [trH, trM]
  by_cases h1 : a.Time = b.Time
  · refine (if_pos h1).trans ?_
    by_cases h2 : a.M.Client = b.M.Client
    · refine (if_pos h2).trans ?_
      apply decide_eq_decide.2
      unfold ltH ltS stampH
      simp only
      omega
    · refine (if_neg h2).trans ?_
      apply decide_eq_decide.2
      unfold ltH ltS stampH
      simp only
      omega
  · refine (if_neg h1).trans ?_
    apply decide_eq_decide.2
    unfold ltH ltS stampH
    simp only
    omega
theorem ref_with (L : List api_Held) (hn : L.length ≤ 1000000) (h : api_Held) : spliceref06_with (L.map trH) (trH h) = some ((insH h L).map trH) := by
  unfold spliceref06_with
  have hinit : (fun (x : Bool × List spliceref06_Held) => (x.1 = false ∧ x.2 = (L.take 0).map trH ∧ ∀ a ∈ L.take 0, ¬ ltH h a) ∨ (x.1 = true ∧ x.2 = (insH h (L.take 0)).map trH ∧ ∃ a ∈ L.take 0, ltH h a)) (false, []) := .inl ⟨rfl, by simp, by simp⟩
  obtain ⟨r, h1, h2⟩ : ∃ r, goLoop (spliceref06_with.step (L.map trH) (trH h)) (.l1 false 0 []) = some r ∧ r = (insH h L).map trH := by
    refine for_post (n := L.length) (fun k (x : Bool × List spliceref06_Held) => spliceref06_with.S.l1 x.1 (k : Int) x.2) (fun k x => (x.1 = false ∧ x.2 = (L.take k).map trH ∧ ∀ a ∈ L.take k, ¬ ltH h a) ∨ (x.1 = true ∧ x.2 = (insH h (L.take k)).map trH ∧ ∃ a ∈ L.take k, ltH h a)) _ ?_ ?_ 0 (false, []) (Nat.zero_le _) hinit
    · rintro ⟨p, x⟩ hI
      simp only at hI
      simp only [spliceref06_with.step, spliceref06_with.l1, List.length_map]
      rw [if_neg (by omega)]
      rw [List.take_of_length_le (Nat.le_refl _)] at hI
      rcases hI with ⟨rfl, rfl, hI⟩ | ⟨rfl, rfl, hI⟩
      · rw [if_neg (by decide), if_pos (by rw [List.length_map]; omega)]
        refine ⟨_, rfl, ?_⟩
        have := insH_none (h := h) (A := L) (B := []) hI
        rw [List.append_nil] at this
        rw [this, List.map_append]
        rfl
      · rw [if_pos rfl]
        exact ⟨_, rfl, rfl⟩
    · rintro k ⟨p, x⟩ hk hI
      left
      simp only at hI
      simp only [spliceref06_with.step, spliceref06_with.l1, List.length_map, Int.toNat_natCast]
      have hw : IntKind.wrap .i64 ((k : Int) + 1) = ((k + 1 : Nat) : Int) := wr1 hk (by omega)
      have ht := take_atH hk
      have hlt : (L.take k).length = k := by rw [List.length_take]; omega
      have hj3 : ∀ (p : Bool) (y : List spliceref06_Held), y.length ≤ 1000001 → spliceref06_with.j3 (L.map trH) (k : Int) p y = some (.inl (.l1 p ((k + 1 : Nat) : Int) (y ++ [trH (L.getD k api_Held.z)]))) := by
        intro p y hy
        unfold spliceref06_with.j3
        simp only [List.length_map, Int.toNat_natCast]
        rw [if_pos (by omega), if_pos (by omega), hw, trH_at L hk]
      have hil : ∀ A : List api_Held, (insH h A).length = A.length + 1 := fun A => by rw [(insH_perm h A).length_eq]; rfl
      rw [if_pos (by omega)]
      rcases hI with ⟨rfl, rfl, hI⟩ | ⟨rfl, rfl, hI⟩
      · rw [if_neg (by decide), if_pos (by omega), trH_at L hk, Ahead_eq]
        by_cases hl : ltH h (L.getD k api_Held.z)
        · rw [decide_eq_true hl]
          unfold spliceref06_with.j2
          rw [if_pos rfl, if_pos (by rw [List.length_map]; omega), hj3 _ _ (by simp; omega)]
          refine ⟨(true, _), rfl, .inr ⟨rfl, ?_, ?_⟩⟩
          · rw [ht, insH_none hI, insH, if_pos hl]
            simp only [List.map_append, List.map_cons, List.map_nil, List.append_assoc, List.cons_append, List.nil_append]
          · rw [ht]
            exact ⟨_, List.mem_append.2 (.inr (List.mem_singleton.2 rfl)), hl⟩
        · rw [decide_eq_false hl]
          unfold spliceref06_with.j2
          rw [if_neg (by decide), hj3 _ _ (by simp; omega)]
          refine ⟨(false, _), rfl, .inl ⟨rfl, ?_, fun a ha => ?_⟩⟩
          · rw [ht, List.map_append, List.map_singleton]
          · rw [ht] at ha
            rcases List.mem_append.1 ha with ha | ha
            · exact hI a ha
            · rw [List.mem_singleton.1 ha]; exact hl
      · rw [if_pos rfl]
        unfold spliceref06_with.j2
        rw [if_neg (by decide), hj3 _ _ (by rw [List.length_map, hil]; omega)]
        refine ⟨(true, _), rfl, .inr ⟨rfl, ?_, ?_⟩⟩
        · rw [ht, insH_some hI, List.map_append, List.map_singleton]
        · obtain ⟨a, ha, hl⟩ := hI
          rw [ht]
          exact ⟨a, List.mem_append.2 (.inl ha), hl⟩
  rw [h1, h2]
end Go.SyP
