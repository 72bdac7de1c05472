/- Sets of keys at the seat of table: what the loops come to (printed of P03B). -/
import Derived.Test.YtijabmambppfhaaG05bP
import Derived.Test.YtijabmambppfhaaP03A
set_option linter.unusedVariables false
set_option linter.unusedSimpArgs false
namespace Go.SyP
open Go Go.Sy Sets

theorem wr {n : Int} (h : -9223372036854775808 ≤ n ∧ n ≤ 9223372036854775807) : IntKind.wrap .i64 n = n := by
  simp [IntKind.wrap, IntKind.bits, IntKind.signed]; omega
theorem wr1 {i n : Nat} (h : i < n) (hn : n ≤ 9223372036854775807) : IntKind.wrap .i64 ((i : Int) + 1) = ((i + 1 : Nat) : Int) := by
  rw [wr (by omega)]; omega
theorem take_at {α : Type} {l : List α} {z : α} {i : Nat} (h : i < l.length) : l.take (i + 1) = l.take i ++ [l.getD i z] := by
  rw [List.take_add_one]
  simp [h]
theorem take_atI {α : Type} {l : List α} {z : α} {i : Nat} (h : i < l.length) : l.take (i + 1) = l.take i ++ [l.getD (i : Int).toNat z] := take_at h
theorem drop_atI {α : Type} {l : List α} {z : α} {i : Nat} (h : i < l.length) : l.drop i = l.getD (i : Int).toNat z :: l.drop (i + 1) := by
  show l.drop i = l.getD i z :: l.drop (i + 1)
  rw [List.drop_eq_getElem_cons h]
  simp [h]
theorem take_all {α : Type} {l : List α} {i : Nat} (h : l.length ≤ i) : l.take i = l := List.take_of_length_le h

/-- A loop over places. -/
theorem for_post {σ ρ α : Type} {step : σ → Option (σ ⊕ ρ)} {n : Nat} (st : Nat → α → σ) (I : Nat → α → Prop) (P : ρ → Prop)
    (hend : ∀ x, I n x → ∃ r, step (st n x) = some (.inr r) ∧ P r)
    (hstep : ∀ i x, i < n → I i x → (∃ y, step (st i x) = some (.inl (st (i + 1) y)) ∧ I (i + 1) y) ∨ ∃ r, step (st i x) = some (.inr r) ∧ P r) :
    ∀ i x, i ≤ n → I i x → ∃ r, goLoop step (st i x) = some r ∧ P r := by
  have key : ∀ m i x, i + m = n → I i x → ∃ r, goLoop step (st i x) = some r ∧ P r := by
    intro m
    induction m with
    | zero =>
      intro i x hi hI
      obtain rfl : i = n := by omega
      obtain ⟨r, h1, h2⟩ := hend x hI
      exact ⟨r, by rw [loop_eq, h1]; rfl, h2⟩
    | succ m ih =>
      intro i x hi hI
      rcases hstep i x (by omega) hI with ⟨y, h1, h2⟩ | ⟨r, h1, h2⟩
      · obtain ⟨r, h3, h4⟩ := ih (i + 1) y (by omega) h2
        exact ⟨r, by rw [loop_eq, h1]; exact h3, h4⟩
      · exact ⟨r, by rw [loop_eq, h1]; rfl, h2⟩
  exact fun i x h => key (n - i) i x (by omega)

def pa (x : api_Span) : Sp := (x.Lo, x.Hi)
def ofP (x : Sp) : api_Span := ⟨x.1, x.2⟩
theorem pa_inj {l m : List api_Span} (h : l.map pa = m.map pa) : l = m := by
  have : ∀ x y : api_Span, pa x = pa y → x = y := by
    intro x y e
    cases x; cases y
    simp only [pa, Prod.mk.injEq] at e
    obtain ⟨rfl, rfl⟩ := e
    rfl
  exact (List.map_inj_right this).1 h
theorem canon_snoc {l : List Sp} {x : Sp} : Canon (l ++ [x]) ↔ Canon l ∧ Ok x ∧ ∀ y ∈ l, y.2 < x.1 := by
  constructor
  · intro h
    have hp := List.pairwise_append.1 h.apart
    exact ⟨⟨fun y hy => h.ok y (List.mem_append_left _ hy), hp.1⟩, h.ok x (by simp), fun y hy => hp.2.2 y hy x (by simp)⟩
  · rintro ⟨h1, h2, h3⟩
    refine ⟨fun y hy => ?_, List.pairwise_append.2 ⟨h1.apart, by simp, fun y hy z hz => ?_⟩⟩
    · rcases List.mem_append.1 hy with hy | hy
      · exact h1.ok y hy
      · simp at hy; subst hy; exact h2
    · simp at hz; subst hz; exact h3 y hy
theorem canon_last {l : List Sp} {x : Sp} (h : Canon (l ++ [x])) : ∀ y ∈ l ++ [x], y.2 ≤ x.2 := by
  intro y hy
  have h2 := canon_snoc.1 h
  rcases List.mem_append.1 hy with hy | hy
  · have a := h2.2.2 y hy
    have b := h2.2.1
    unfold Ok at b
    omega
  · simp at hy; subst hy; exact Int.le_refl _
theorem canon_take {l m : List Sp} (h : Canon (l ++ m)) : Canon l := ⟨fun y hy => h.ok y (List.mem_append_left _ hy), (List.pairwise_append.1 h.apart).1⟩


theorem span_One_eq (x : api_Span) : span_One x = decide (Ok (pa x)) := by
  unfold span_One span_One.j1 Ok pa
  by_cases h1 : x.Lo ≥ 0 <;> by_cases h2 : x.Lo < x.Hi <;> simp [h1, h2]
theorem span_Check_eq (a : List api_Span) (hn : a.length ≤ 9223372036854775807) : ∃ r, span_Check a = some r ∧ (r = true ↔ Canon (a.map pa) ∧ a.length ≤ 64) := by
  unfold span_Check
  refine for_post (n := a.length) (fun i (_ : Unit) => span_Check.S.l1 (i : Int)) (fun i _ => Canon ((a.take i).map pa)) _ ?_ ?_ 0 () (Nat.zero_le _) (by simpa using Canon.nil)
  · intro _ h
    rw [take_all (Nat.le_refl _)] at h
    refine ⟨_, by simp [span_Check.step, span_Check.l1]; rfl, ?_⟩
    simp only [h, true_and, decide_eq_true_eq]
    omega
  · intro i _ hi h
    have hx : (a.take (i + 1)).map pa = (a.take i).map pa ++ [pa (a.getD (i : Int).toNat api_Span.z)] := by rw [take_atI hi, List.map_append]; rfl
    have hsub : ∀ l : List Sp, ¬ Canon ((a.take (i + 1)).map pa) → ¬ Canon (a.map pa) := fun _ h1 h2 => h1 (by
      rw [← List.take_append_drop (i + 1) a, List.map_append] at h2
      exact canon_take h2)
    have hstep : (0 : Int) ≤ (i : Int) ∧ (i : Int) < (a.length : Int) := by omega
    simp only [span_Check.step, span_Check.l1, hstep.2, if_true, hstep, and_self, span_One_eq]
    generalize a.getD (i : Int).toNat api_Span.z = X at hx ⊢
    by_cases ho : Ok (pa X)
    · simp only [ho, decide_true, if_true]
      rcases Nat.eq_zero_or_pos i with h0 | h0
      · subst h0
        left
        refine ⟨(), by simp [span_Check.j1, show IntKind.wrap .i64 1 = 1 by decide], ?_⟩
        rw [hx, canon_snoc]
        exact ⟨h, ho, by simp⟩
      · have hw : IntKind.wrap .i64 ((i : Int) - 1) = ((i - 1 : Nat) : Int) := by rw [wr (by omega)]; omega
        rw [if_pos (show (i : Int) > 0 by omega), hw, if_pos (by omega)]
        have hprev : (a.take i).map pa = (a.take (i - 1)).map pa ++ [pa (a.getD ((i - 1 : Nat) : Int).toNat api_Span.z)] := by
          have := take_atI (l := a) (z := api_Span.z) (i := i - 1) (by omega)
          rw [show i - 1 + 1 = i by omega] at this
          rw [this, List.map_append]; rfl
        generalize a.getD ((i - 1 : Nat) : Int).toNat api_Span.z = Y at hprev ⊢
        by_cases hc : X.Lo ≤ Y.Hi
        · right
          refine ⟨false, by simp [span_Check.j1, hc], ?_⟩
          simp only [Bool.false_eq_true, false_iff, not_and]
          intro h1
          exfalso
          refine hsub [] ?_ h1
          rw [hx, canon_snoc]
          rintro ⟨_, _, h4⟩
          have := h4 (pa Y) (by rw [hprev]; simp)
          simp only [pa] at this
          omega
        · left
          refine ⟨(), by simp [span_Check.j1, hc, wr1 hi hn], ?_⟩
          rw [hx, canon_snoc]
          refine ⟨h, ho, fun y hy => ?_⟩
          rw [hprev] at h hy
          have := canon_last h y hy
          simp only [pa] at this ⊢
          omega
    · right
      refine ⟨false, by simp [span_Check.j1, ho], ?_⟩
      simp only [Bool.false_eq_true, false_iff, not_and]
      intro h1
      exfalso
      refine hsub [] ?_ h1
      rw [hx, canon_snoc]
      rintro ⟨_, h4, _⟩
      exact ho h4

theorem index_eq (a : List api_Span) (hn : a.length ≤ 9223372036854775807) (q : api_Span → Bool) : ∃ r, slices_IndexFunc_api_Span a (fun z => some (q z)) = some r ∧ decide (r ≥ 0) = a.any q := by
  unfold slices_IndexFunc_api_Span
  refine for_post (n := a.length) (fun i (_ : Unit) => slices_IndexFunc_api_Span.S.l1 (i : Int)) (fun i _ => (a.take i).any q = false) _ ?_ ?_ 0 () (Nat.zero_le _) rfl
  · intro _ h
    rw [take_all (Nat.le_refl _)] at h
    refine ⟨_, by simp [slices_IndexFunc_api_Span.step, slices_IndexFunc_api_Span.l1]; rfl, ?_⟩
    rw [h]; decide
  · intro i _ hi h
    have hx : (a.take (i + 1)).any q = q (a.getD (i : Int).toNat api_Span.z) := by rw [take_atI (z := api_Span.z) hi, List.any_append, h]; simp
    have hstep : (0 : Int) ≤ (i : Int) ∧ (i : Int) < (a.length : Int) := by omega
    simp only [slices_IndexFunc_api_Span.step, slices_IndexFunc_api_Span.l1, hstep.2, if_true, hstep, and_self, Option.bind_some]
    cases hq : q (a.getD (i : Int).toNat api_Span.z) with
    | true =>
      right
      refine ⟨i, by simp, ?_⟩
      rw [hq] at hx
      have : a.any q = true := by rw [← List.take_append_drop (i + 1) a, List.any_append, hx]; rfl
      rw [this]
      simp
    | false =>
      left
      refine ⟨(), by simp [wr1 hi hn], ?_⟩
      rw [hx, hq]
theorem contains_eq (a : List api_Span) (hn : a.length ≤ 9223372036854775807) (q : api_Span → Bool) : slices_ContainsFunc_api_Span a (fun z => some (q z)) = some (a.any q) := by
  obtain ⟨r, h1, h2⟩ := index_eq a hn q
  unfold slices_ContainsFunc_api_Span
  rw [h1, Option.bind_some, h2]
theorem span_Has_eq (a : List api_Span) (hn : a.length ≤ 9223372036854775807) (k : Int) : span_Has a k = some ((a.map pa).any fun x => decide (Ok x) && decide (x.1 ≤ k) && decide (k < x.2)) := by
  unfold span_Has
  rw [contains_eq a hn, Option.bind_some, List.any_map]
  congr 1
  congr 1
  funext x
  unfold span_Has_1 span_Has_1.j1
  rw [span_One_eq]
  simp only [Function.comp, pa]
  by_cases h1 : Ok (x.Lo, x.Hi) <;> by_cases h2 : k ≥ x.Lo <;> simp [h1, h2] <;> try exact decide_eq_decide.2 Iff.rfl
end Go.SyP
