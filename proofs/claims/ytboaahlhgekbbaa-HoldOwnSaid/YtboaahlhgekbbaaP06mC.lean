/- Tables: what the loops of table and of its reference come to. -/
import Derived.Test.YtboaahlhgekbbaaP06mB
set_option linter.unusedVariables false
set_option linter.unusedSimpArgs false
namespace Go.SyP
open Go Go.Sy Sets

theorem tb_snoc {l : List api_Pair} {x : api_Pair} : Tb (l ++ [x]) ↔ Tb l ∧ okP x ∧ ∀ y ∈ l, y.Key < x.Key := by
  constructor
  · intro h
    have hp := List.pairwise_append.1 h.up
    exact ⟨⟨fun y hy => h.ok y (List.mem_append_left _ hy), hp.1⟩, h.ok x (by simp), fun y hy => hp.2.2 y hy x (by simp)⟩
  · rintro ⟨h1, h2, h3⟩
    refine ⟨fun y hy => ?_, List.pairwise_append.2 ⟨h1.up, by simp, fun y hy z hz => ?_⟩⟩
    · rcases List.mem_append.1 hy with hy | hy
      · exact h1.ok y hy
      · simp at hy; subst hy; exact h2
    · simp at hz; subst hz; exact h3 y hy
theorem tb_last {l : List api_Pair} {x : api_Pair} (h : Tb (l ++ [x])) : ∀ y ∈ l ++ [x], y.Key ≤ x.Key := by
  intro y hy
  have h2 := tb_snoc.1 h
  rcases List.mem_append.1 hy with hy | hy
  · exact Int.le_of_lt (h2.2.2 y hy)
  · simp at hy; subst hy; exact Int.le_refl _
theorem tb_take {l m : List api_Pair} (h : Tb (l ++ m)) : Tb l := ⟨fun y hy => h.ok y (List.mem_append_left _ hy), (List.pairwise_append.1 h.up).1⟩
/-! ### A key's place, and its value -/
abbrev pairO (o : Option Int) : Int × Bool := (o.getD 0, o.isSome)
end Go.SyP
