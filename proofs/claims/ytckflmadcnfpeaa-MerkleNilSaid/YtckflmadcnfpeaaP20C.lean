/- Tables: what the loops of table and of its reference come to. -/
import Derived.Test.YtckflmadcnfpeaaP20B
set_option linter.unusedVariables false
set_option linter.unusedSimpArgs false
namespace Go.SyP
open Go Go.Sy Sets

theorem tb_snoc {l : List api_Pair} {x : api_Pair} : Tb (l ++ [x]) ↔ Tb l ∧ okP x ∧ ∀ y ∈ l, y.Key < x.Key := by
  constructor
  · intro h
    have hp := List.pairwise_append.1 h.up
    exact ⟨⟨fun y hy => h.ok y (List.mem_append_left _ hy), hp.1⟩, h.ok x (by simp), fun y hy => hp.2.2 y hy x (by simp)⟩
  · rintro ⟨h1, h2, h3⟩
    refine ⟨fun y hy => ?_, List.pairwise_append.2 ⟨h1.up, by simp, fun y hy z hz => ?_⟩⟩
    · rcases List.mem_append.1 hy with hy | hy
      · exact h1.ok y hy
      · simp at hy; subst hy; exact h2
    · simp at hz; subst hz; exact h3 y hy
theorem tb_last {l : List api_Pair} {x : api_Pair} (h : Tb (l ++ [x])) : ∀ y ∈ l ++ [x], y.Key ≤ x.Key := by
  intro y hy
  have h2 := tb_snoc.1 h
  rcases List.mem_append.1 hy with hy | hy
  · exact Int.le_of_lt (h2.2.2 y hy)
  · simp at hy; subst hy; exact Int.le_refl _
theorem tb_take {l m : List api_Pair} (h : Tb (l ++ m)) : Tb l := ⟨fun y hy => h.ok y (List.mem_append_left _ hy), (List.pairwise_append.1 h.up).1⟩
theorem tr_at (a : List api_Pair) {i : Nat} (hi : i < a.length) : (a.map tr).getD (i : Int).toNat spliceref04_Pair.z = tr (a.getD (i : Int).toNat api_Pair.z) := by
  show (a.map tr).getD i _ = tr (a.getD i _)
  simp [List.getD_eq_getElem?_getD, hi]

theorem Refs5_eq (a : List api_Pair) (hn : a.length ≤ 5000) : splicelaw05_Refs a = some (a.map tr) := by
  unfold splicelaw05_Refs
  obtain ⟨r, h1, h2⟩ : ∃ r, goLoop (splicelaw05_Refs.step a) (.l1 0 []) = some r ∧ r = a.map tr := by
    refine for_post (n := a.length) (fun i x => splicelaw05_Refs.S.l1 (i : Int) x) (fun i x => x = (a.take i).map tr) _ ?_ ?_ 0 [] (Nat.zero_le _) (by simp)
    · intro x h
      rw [take_all (Nat.le_refl _)] at h
      exact ⟨x, by simp [splicelaw05_Refs.step, splicelaw05_Refs.l1], h⟩
    · intro i x hi h
      left
      have hstep : (0 : Int) ≤ (i : Int) ∧ (i : Int) < (a.length : Int) := by omega
      have hl : x.length = i := by rw [h]; simp [Nat.min_eq_left (Nat.le_of_lt hi)]
      simp only [splicelaw05_Refs.step, splicelaw05_Refs.l1, hstep.2, if_true, hstep, and_self, hl, wr1 hi (by omega : a.length ≤ 9223372036854775807)]
      rw [if_pos (by omega)]
      refine ⟨_, rfl, ?_⟩
      rw [take_atI (z := api_Pair.z) hi, List.map_append, h]
      rfl
  rw [h1, h2]

instance : DecidableEq spliceref04_Pair := fun a b => decidable_of_iff (a.Key = b.Key ∧ a.Val = b.Val) ⟨fun h => by cases a; cases b; simp only at h; obtain ⟨rfl, rfl⟩ := h; rfl, fun h => by rw [h]; exact ⟨rfl, rfl⟩⟩
theorem table_Check_eq (a : List api_Pair) (hn : a.length ≤ 9223372036854775807) : ∃ r, table_Check a = some r ∧ (r = true ↔ Tb a) := by
  unfold table_Check
  refine for_post (n := a.length) (fun i (_ : Unit) => table_Check.S.l1 (i : Int)) (fun i _ => Tb (a.take i)) _ ?_ ?_ 0 () (Nat.zero_le _) (by simpa using Tb.nil)
  · intro _ h
    rw [take_all (Nat.le_refl _)] at h
    exact ⟨true, by simp [table_Check.step, table_Check.l1], by simp [h]⟩
  · intro i _ hi h
    have hx : a.take (i + 1) = a.take i ++ [a.getD (i : Int).toNat api_Pair.z] := take_atI hi
    have hsub : ¬ Tb (a.take (i + 1)) → ¬ Tb a := fun h1 h2 => h1 (by
      rw [← List.take_append_drop (i + 1) a] at h2
      exact tb_take h2)
    have hstep : (0 : Int) ≤ (i : Int) ∧ (i : Int) < (a.length : Int) := by omega
    simp only [table_Check.step, table_Check.l1, hstep.2, if_true, hstep, and_self]
    generalize a.getD (i : Int).toNat api_Pair.z = X at hx ⊢
    by_cases ho : okP X
    · obtain ⟨o1, o2, o3, o4⟩ := id ho
      rw [if_neg (by omega), if_neg (by omega), if_neg (by omega), if_neg (by omega)]
      rcases Nat.eq_zero_or_pos i with h0 | h0
      · subst h0
        left
        refine ⟨(), by simp [table_Check.j1, show IntKind.wrap .i64 1 = 1 by decide], ?_⟩
        rw [hx, tb_snoc]
        exact ⟨h, ho, by simp⟩
      · have hw : IntKind.wrap .i64 ((i : Int) - 1) = ((i - 1 : Nat) : Int) := by rw [wr (by omega)]; omega
        rw [if_pos (show (i : Int) > 0 by omega), hw, if_pos (by omega)]
        have hprev : a.take i = a.take (i - 1) ++ [a.getD ((i - 1 : Nat) : Int).toNat api_Pair.z] := by
          have := take_atI (l := a) (z := api_Pair.z) (i := i - 1) (by omega)
          rwa [show i - 1 + 1 = i by omega] at this
        generalize a.getD ((i - 1 : Nat) : Int).toNat api_Pair.z = Y at hprev ⊢
        by_cases hc : Y.Key ≥ X.Key
        · right
          refine ⟨false, by simp [table_Check.j1, hc], ?_⟩
          simp only [Bool.false_eq_true, false_iff]
          refine hsub ?_
          rw [hx, tb_snoc]
          rintro ⟨_, _, h4⟩
          have := h4 Y (by rw [hprev]; simp)
          omega
        · left
          refine ⟨(), by simp [table_Check.j1, hc, wr1 hi hn], ?_⟩
          rw [hx, tb_snoc]
          refine ⟨h, ho, fun y hy => ?_⟩
          rw [hprev] at h hy
          have := tb_last h y hy
          omega
    · right
      refine ⟨false, ?_, ?_⟩
      · unfold okP at ho
        have e : table_Check.j1 (i : Int) true = some (.inr false) := by simp [table_Check.j1]
        rw [e]
        by_cases h1 : X.Key < 0
        · rw [if_pos h1]
        · by_cases h2 : X.Key ≥ 4096
          · rw [if_neg h1, if_pos h2]
          · by_cases h3 : X.Val < -1099511627776
            · rw [if_neg h1, if_neg h2, if_pos h3]
            · rw [if_neg h1, if_neg h2, if_neg h3, if_pos (by omega)]
      · simp only [Bool.false_eq_true, false_iff]
        refine hsub ?_
        rw [hx, tb_snoc]
        rintro ⟨_, h4, _⟩
        exact ho h4

theorem ref5_Check_eq (a : List api_Pair) (hn : a.length ≤ 9223372036854775807) : ∃ r, spliceref05_Check (a.map tr) = some r ∧ (r = true ↔ Tb a) := by
  unfold spliceref05_Check
  refine for_post (n := a.length) (fun i (_ : Unit) => spliceref05_Check.S.l1 (i : Int)) (fun i _ => Tb (a.take i)) _ ?_ ?_ 0 () (Nat.zero_le _) (by simpa using Tb.nil)
  · intro _ h
    rw [take_all (Nat.le_refl _)] at h
    exact ⟨true, by simp [spliceref05_Check.step, spliceref05_Check.l1], by simp [h]⟩
  · intro i _ hi h
    have hx : a.take (i + 1) = a.take i ++ [a.getD (i : Int).toNat api_Pair.z] := take_atI hi
    have hsub : ¬ Tb (a.take (i + 1)) → ¬ Tb a := fun h1 h2 => h1 (by
      rw [← List.take_append_drop (i + 1) a] at h2
      exact tb_take h2)
    have hstep : (0 : Int) ≤ (i : Int) ∧ (i : Int) < (a.length : Int) := by omega
    simp only [spliceref05_Check.step, spliceref05_Check.l1, spliceref05_Check.j1, List.length_map, hstep.2, if_true, hstep, and_self, tr_at a hi]
    generalize a.getD (i : Int).toNat api_Pair.z = X at hx ⊢
    by_cases ho : okP X
    · obtain ⟨o1, o2, o3, o4⟩ := id ho
      rw [if_neg (show ¬ (tr X).Key < 0 by show ¬ X.Key < 0; omega), if_neg (show ¬ (tr X).Key > 4095 by show ¬ X.Key > 4095; omega), if_neg (show ¬ (tr X).Val < -1099511627776 by show ¬ X.Val < _; omega), decide_eq_false (show ¬ (tr X).Val > 1099511627776 by show ¬ X.Val > _; omega), if_neg (by decide)]
      rcases Nat.eq_zero_or_pos i with h0 | h0
      · subst h0
        left
        refine ⟨(), by simp [spliceref05_Check.j2, show IntKind.wrap .i64 1 = 1 by decide], ?_⟩
        rw [hx, tb_snoc]
        exact ⟨h, ho, by simp⟩
      · have hw : IntKind.wrap .i64 ((i : Int) - 1) = ((i - 1 : Nat) : Int) := by rw [wr (by omega)]; omega
        rw [if_pos (show (i : Int) > 0 by omega), hw, if_pos (by omega)]
        have hprev : a.take i = a.take (i - 1) ++ [a.getD ((i - 1 : Nat) : Int).toNat api_Pair.z] := by
          have := take_atI (l := a) (z := api_Pair.z) (i := i - 1) (by omega)
          rwa [show i - 1 + 1 = i by omega] at this
        rw [tr_at a (i := i - 1) (by omega)]
        generalize a.getD ((i - 1 : Nat) : Int).toNat api_Pair.z = Y at hprev ⊢
        by_cases hc : X.Key ≤ Y.Key
        · right
          refine ⟨false, by simp [spliceref05_Check.j2, hc, tr], ?_⟩
          simp only [Bool.false_eq_true, false_iff]
          refine hsub ?_
          rw [hx, tb_snoc]
          rintro ⟨_, _, h4⟩
          have := h4 Y (by rw [hprev]; simp)
          omega
        · left
          refine ⟨(), by simp [spliceref05_Check.j2, hc, wr1 hi hn, tr], ?_⟩
          rw [hx, tb_snoc]
          refine ⟨h, ho, fun y hy => ?_⟩
          rw [hprev] at h hy
          have := tb_last h y hy
          omega
    · right
      refine ⟨false, ?_, ?_⟩
      · unfold okP at ho
        by_cases h1 : (tr X).Key < 0
        · rw [if_pos h1]
        · by_cases h2 : (tr X).Key > 4095
          · rw [if_neg h1, if_pos h2]
          · by_cases h3 : (tr X).Val < -1099511627776
            · rw [if_neg h1, if_neg h2, if_pos h3]
            · rw [if_neg h1, if_neg h2, if_neg h3, decide_eq_true (show (tr X).Val > 1099511627776 by simp only [tr] at h1 h2 h3 ⊢; omega), if_pos rfl]
      · simp only [Bool.false_eq_true, false_iff]
        refine hsub ?_
        rw [hx, tb_snoc]
        rintro ⟨_, h4, _⟩
        exact ho h4

/-! ### A key's place, and its value -/
abbrev pairO (o : Option Int) : Int × Bool := (o.getD 0, o.isSome)
end Go.SyP
