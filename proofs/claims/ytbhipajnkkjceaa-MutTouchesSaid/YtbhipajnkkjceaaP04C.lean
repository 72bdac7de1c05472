/- Tables: what the loops of table and of its reference come to. -/
import Derived.Test.YtbhipajnkkjceaaP04B
set_option linter.unusedVariables false
set_option linter.unusedSimpArgs false
namespace Go.SyP
open Go Go.Sy Sets

theorem tb_snoc {l : List api_Pair} {x : api_Pair} : Tb (l ++ [x]) ↔ Tb l ∧ okP x ∧ ∀ y ∈ l, y.Key < x.Key := by
  constructor
  · intro h
    have hp := List.pairwise_append.1 h.up
    exact ⟨⟨fun y hy => h.ok y (List.mem_append_left _ hy), hp.1⟩, h.ok x (by simp), fun y hy => hp.2.2 y hy x (by simp)⟩
  · rintro ⟨h1, h2, h3⟩
    refine ⟨fun y hy => ?_, List.pairwise_append.2 ⟨h1.up, by simp, fun y hy z hz => ?_⟩⟩
    · rcases List.mem_append.1 hy with hy | hy
      · exact h1.ok y hy
      · simp at hy; subst hy; exact h2
    · simp at hz; subst hz; exact h3 y hy
theorem tb_last {l : List api_Pair} {x : api_Pair} (h : Tb (l ++ [x])) : ∀ y ∈ l ++ [x], y.Key ≤ x.Key := by
  intro y hy
  have h2 := tb_snoc.1 h
  rcases List.mem_append.1 hy with hy | hy
  · exact Int.le_of_lt (h2.2.2 y hy)
  · simp at hy; subst hy; exact Int.le_refl _
theorem tb_take {l m : List api_Pair} (h : Tb (l ++ m)) : Tb l := ⟨fun y hy => h.ok y (List.mem_append_left _ hy), (List.pairwise_append.1 h.up).1⟩
theorem tr_at (a : List api_Pair) {i : Nat} (hi : i < a.length) : (a.map tr).getD (i : Int).toNat spliceref04_Pair.z = tr (a.getD (i : Int).toNat api_Pair.z) := by
  show (a.map tr).getD i _ = tr (a.getD i _)
  simp [List.getD_eq_getElem?_getD, hi]

def trM (m : api_Mut) : spliceref04_Mut := ⟨m.Client, m.Seq, m.Kind, m.Pairs.map tr, ⟨m.Over.Lo, m.Over.Hi⟩, m.Old⟩
theorem RefM_eq (m : api_Mut) (hn : m.Pairs.length ≤ 5000) : splicelaw04_Ref m = some (trM m) := by
  unfold splicelaw04_Ref
  obtain ⟨r, h1, h2⟩ : ∃ r, goLoop (splicelaw04_Ref.step m) (.l1 0 []) = some r ∧ r = trM m := by
    refine for_post (n := m.Pairs.length) (fun i x => splicelaw04_Ref.S.l1 (i : Int) x) (fun i x => x = (m.Pairs.take i).map tr) _ ?_ ?_ 0 [] (Nat.zero_le _) (by simp)
    · intro x h
      rw [take_all (Nat.le_refl _)] at h
      exact ⟨_, by simp [splicelaw04_Ref.step, splicelaw04_Ref.l1]; rfl, by rw [h]; rfl⟩
    · intro i x hi h
      left
      have hstep : (0 : Int) ≤ (i : Int) ∧ (i : Int) < (m.Pairs.length : Int) := by omega
      have hl : x.length = i := by rw [h]; simp [Nat.min_eq_left (Nat.le_of_lt hi)]
      simp only [splicelaw04_Ref.step, splicelaw04_Ref.l1, hstep.2, if_true, hstep, and_self, hl, wr1 hi (by omega : m.Pairs.length ≤ 9223372036854775807)]
      rw [if_pos (by omega)]
      refine ⟨_, rfl, ?_⟩
      rw [take_atI (z := api_Pair.z) hi, List.map_append, h]
      rfl
  rw [h1, h2]

instance : DecidableEq spliceref04_Pair := fun a b => decidable_of_iff (a.Key = b.Key ∧ a.Val = b.Val) ⟨fun h => by cases a; cases b; simp only at h; obtain ⟨rfl, rfl⟩ := h; rfl, fun h => by rw [h]; exact ⟨rfl, rfl⟩⟩
/-! ### A key's place, and its value -/
abbrev pairO (o : Option Int) : Int × Bool := (o.getD 0, o.isSome)
end Go.SyP
