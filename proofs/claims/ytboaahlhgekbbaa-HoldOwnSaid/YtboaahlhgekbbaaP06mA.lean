/- Sets of keys at the seat of table: what the loops come to (printed of P03B). -/
import Derived.Test.YtboaahlhgekbbaaG06P
import Derived.Test.YtboaahlhgekbbaaP03A
set_option linter.unusedVariables false
set_option linter.unusedSimpArgs false
namespace Go.SyP
open Go Go.Sy Sets

theorem wr {n : Int} (h : -9223372036854775808 ≤ n ∧ n ≤ 9223372036854775807) : IntKind.wrap .i64 n = n := by
  simp [IntKind.wrap, IntKind.bits, IntKind.signed]; omega
theorem wr1 {i n : Nat} (h : i < n) (hn : n ≤ 9223372036854775807) : IntKind.wrap .i64 ((i : Int) + 1) = ((i + 1 : Nat) : Int) := by
  rw [wr (by omega)]; omega
theorem take_at {α : Type} {l : List α} {z : α} {i : Nat} (h : i < l.length) : l.take (i + 1) = l.take i ++ [l.getD i z] := by
  rw [List.take_add_one]
  simp [h]
theorem take_atI {α : Type} {l : List α} {z : α} {i : Nat} (h : i < l.length) : l.take (i + 1) = l.take i ++ [l.getD (i : Int).toNat z] := take_at h
theorem drop_atI {α : Type} {l : List α} {z : α} {i : Nat} (h : i < l.length) : l.drop i = l.getD (i : Int).toNat z :: l.drop (i + 1) := by
  show l.drop i = l.getD i z :: l.drop (i + 1)
  rw [List.drop_eq_getElem_cons h]
  simp [h]
theorem take_all {α : Type} {l : List α} {i : Nat} (h : l.length ≤ i) : l.take i = l := List.take_of_length_le h

/-- A loop over places. -/
theorem for_post {σ ρ α : Type} {step : σ → Option (σ ⊕ ρ)} {n : Nat} (st : Nat → α → σ) (I : Nat → α → Prop) (P : ρ → Prop)
    (hend : ∀ x, I n x → ∃ r, step (st n x) = some (.inr r) ∧ P r)
    (hstep : ∀ i x, i < n → I i x → (∃ y, step (st i x) = some (.inl (st (i + 1) y)) ∧ I (i + 1) y) ∨ ∃ r, step (st i x) = some (.inr r) ∧ P r) :
    ∀ i x, i ≤ n → I i x → ∃ r, goLoop step (st i x) = some r ∧ P r := by
  have key : ∀ m i x, i + m = n → I i x → ∃ r, goLoop step (st i x) = some r ∧ P r := by
    intro m
    induction m with
    | zero =>
      intro i x hi hI
      obtain rfl : i = n := by omega
      obtain ⟨r, h1, h2⟩ := hend x hI
      exact ⟨r, by rw [loop_eq, h1]; rfl, h2⟩
    | succ m ih =>
      intro i x hi hI
      rcases hstep i x (by omega) hI with ⟨y, h1, h2⟩ | ⟨r, h1, h2⟩
      · obtain ⟨r, h3, h4⟩ := ih (i + 1) y (by omega) h2
        exact ⟨r, by rw [loop_eq, h1]; exact h3, h4⟩
      · exact ⟨r, by rw [loop_eq, h1]; rfl, h2⟩
  exact fun i x h => key (n - i) i x (by omega)

def pa (x : api_Span) : Sp := (x.Lo, x.Hi)
def ofP (x : Sp) : api_Span := ⟨x.1, x.2⟩
theorem pa_inj {l m : List api_Span} (h : l.map pa = m.map pa) : l = m := by
  have : ∀ x y : api_Span, pa x = pa y → x = y := by
    intro x y e
    cases x; cases y
    simp only [pa, Prod.mk.injEq] at e
    obtain ⟨rfl, rfl⟩ := e
    rfl
  exact (List.map_inj_right this).1 h
theorem canon_snoc {l : List Sp} {x : Sp} : Canon (l ++ [x]) ↔ Canon l ∧ Ok x ∧ ∀ y ∈ l, y.2 < x.1 := by
  constructor
  · intro h
    have hp := List.pairwise_append.1 h.apart
    exact ⟨⟨fun y hy => h.ok y (List.mem_append_left _ hy), hp.1⟩, h.ok x (by simp), fun y hy => hp.2.2 y hy x (by simp)⟩
  · rintro ⟨h1, h2, h3⟩
    refine ⟨fun y hy => ?_, List.pairwise_append.2 ⟨h1.apart, by simp, fun y hy z hz => ?_⟩⟩
    · rcases List.mem_append.1 hy with hy | hy
      · exact h1.ok y hy
      · simp at hy; subst hy; exact h2
    · simp at hz; subst hz; exact h3 y hy
theorem canon_last {l : List Sp} {x : Sp} (h : Canon (l ++ [x])) : ∀ y ∈ l ++ [x], y.2 ≤ x.2 := by
  intro y hy
  have h2 := canon_snoc.1 h
  rcases List.mem_append.1 hy with hy | hy
  · have a := h2.2.2 y hy
    have b := h2.2.1
    unfold Ok at b
    omega
  · simp at hy; subst hy; exact Int.le_refl _
theorem canon_take {l m : List Sp} (h : Canon (l ++ m)) : Canon l := ⟨fun y hy => h.ok y (List.mem_append_left _ hy), (List.pairwise_append.1 h.apart).1⟩


theorem span_One_eq (x : api_Span) : span_One x = decide (Ok (pa x)) := by
  unfold span_One span_One.j1 Ok pa
  by_cases h1 : x.Lo ≥ 0 <;> by_cases h2 : x.Lo < x.Hi <;> simp [h1, h2]
end Go.SyP
