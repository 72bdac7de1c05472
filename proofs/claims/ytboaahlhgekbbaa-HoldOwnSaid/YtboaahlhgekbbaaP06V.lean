/- Hold: those that were added; all is popped in order. -/
import Derived.Test.YtboaahlhgekbbaaP06W
set_option linter.unusedVariables false
set_option linter.unusedSimpArgs false
namespace Go.SyP
open Go Go.Sy

theorem loop_run {σ ρ : Type} {step : σ → Option (σ ⊕ ρ)} (I : σ → Prop) (μ : σ → Nat) (P : Option ρ → Prop)
    (h : ∀ s, I s → (∃ s', step s = some (.inl s') ∧ ((I s' ∧ μ s' < μ s) ∨ P (goLoop step s'))) ∨ ∃ r, step s = some (.inr r) ∧ P (some r)) : ∀ s, I s → P (goLoop step s) := by
  have key : ∀ n s, μ s ≤ n → I s → P (goLoop step s) := by
    intro n
    induction n with
    | zero =>
      intro s hn hs
      rw [loop_eq]
      rcases h s hs with ⟨s', h1, h2 | h2⟩ | ⟨r, h1, h2⟩
      · omega
      · rw [h1]; exact h2
      · rw [h1]; exact h2
    | succ n ih =>
      intro s hn hs
      rw [loop_eq]
      rcases h s hs with ⟨s', h1, h2 | h2⟩ | ⟨r, h1, h2⟩
      · rw [h1]; exact ih s' (by omega) h2.1
      · rw [h1]; exact h2
      · rw [h1]; exact h2
  exact fun s => key (μ s) s (Nat.le_refl _)

/-! ### Those that were added -/
structure Kept (q : QL) (kept : List api_Held) : Prop where
  perm : q.l.Perm kept
  ok : ∀ h ∈ kept, mOk h.M = true ∧ timedB h.Time = true ∧ h.M.Pairs.length ≤ 20
  len : kept.length ≤ 60
theorem Kept.nil : Kept qNew [] := ⟨.refl _, fun _ h => (by cases h), by simp⟩
theorem Kept.apart {q : QL} {kept : List api_Held} (h : Kept q kept) : kept.Pairwise apartK := (h.perm.pairwise_iff fun h => h.symm).1 q.good.apart
theorem add_step {q : QL} {kept : List api_Held} (k : Kept q kept) (hl : kept.length < 60) (h : api_Held) (hp : h.M.Pairs.length ≤ 20) :
    ∃ e q', qAdd q h = some (e, q') ∧ ((e = 0 ∧ Kept q' (kept ++ [h]) ∧ q'.l = insH h q.l) ∨ (e ≠ 0 ∧ q' = q)) := by
  have hlen := k.perm.length_eq
  rw [qAdd_eq q h (by omega) (by omega)]
  by_cases hc : mOk h.M = true ∧ timedB h.Time = true
  · rw [if_pos hc]
    unfold qPut
    split
    · exact ⟨7, q, rfl, .inr ⟨by decide, rfl⟩⟩
    · rename_i e
      rw [dif_pos (show h.M.Pairs.length ≤ 1000000 by omega)]
      refine ⟨0, _, rfl, .inl ⟨rfl, ⟨?_, fun y hy => ?_, by simp; omega⟩, rfl⟩⟩
      · exact (insH_perm h q.l).trans ((k.perm.cons h).trans (List.perm_append_singleton h kept).symm)
      · rcases List.mem_append.1 hy with hy | hy
        · exact k.ok y hy
        · rw [List.mem_singleton.1 hy]; exact ⟨hc.1, hc.2, hp⟩
  · rw [if_neg hc]
    exact ⟨1, q, rfl, .inr ⟨by decide, rfl⟩⟩

theorem getD_memH {l : List api_Held} {i : Nat} (h : i < l.length) : l.getD i api_Held.z ∈ l := by
  rw [List.getD_eq_getElem?_getD, List.getElem?_eq_getElem h]
  exact List.getElem_mem h
theorem drop_at {l : List api_Held} {i : Nat} (h : i < l.length) : l.drop i = l.getD i api_Held.z :: l.drop (i + 1) := by
  rw [List.drop_eq_getElem_cons h]
  simp [h]
theorem take_atH {l : List api_Held} {i : Nat} (h : i < l.length) : l.take (i + 1) = l.take i ++ [l.getD i api_Held.z] := by
  rw [List.take_add_one]
  simp [h]

def fin1 (h : api_Held) : api_Held := ⟨h.M, h.Time, true⟩
theorem final_step {q : QL} {A B : List api_Held} {h : api_Held} (hp : q.l.Perm (A ++ h :: B)) (ht : timedB h.Time = true) :
    (h.Final = true ∧ qFinal q h.M.Client h.M.Seq h.Time = (7, q)) ∨ (h.Final = false ∧ ∃ q', qFinal q h.M.Client h.M.Seq h.Time = (0, q') ∧ q'.l.Perm (A ++ fin1 h :: B)) := by
  have hm : h ∈ q.l := hp.mem_iff.2 (by simp)
  have hk : isK h.M.Client h.M.Seq h = true := isK_iff.2 ⟨rfl, rfl⟩
  have e := finH_of q.good.apart hm hk
  unfold qFinal
  split
  · rename_i x e'
    have hx : x = h := by rw [e] at e'; injection e' with e'; exact e'.symm
    subst hx
    cases hf : x.Final with
    | true => exact .inl ⟨rfl, by simp⟩
    | false =>
      right
      refine ⟨rfl, ?_⟩
      simp only [Bool.false_eq_true, if_false]
      rw [if_neg (by simp [ht])]
      refine ⟨_, rfl, ?_⟩
      have p1 : (delH x.M.Client x.M.Seq q.l).Perm (A ++ B) := ((delH_perm q.good.apart hm hk).symm.trans (hp.trans List.perm_middle)).cons_inv
      exact (insH_perm _ _).trans ((p1.cons _).trans List.perm_middle.symm)
  · rename_i e'
    rw [e] at e'
    cases e'

theorem pop_cons {x : api_Held} {xs : List api_Held} {g : Good (x :: xs)} (hf : x.Final = true) : ∃ g', qPop ⟨x :: xs, g⟩ = (x, true, ⟨xs, g'⟩) := by
  refine ⟨?_, ?_⟩
  · exact ⟨(List.pairwise_cons.1 g.up).2, (List.pairwise_cons.1 g.apart).2, fun y hy => g.small y (List.mem_cons_of_mem _ hy)⟩
  · simp only [qPop, hf, if_true]
theorem pop_stop {x : api_Held} {xs : List api_Held} {g : Good (x :: xs)} (hf : x.Final = false) : qPop ⟨x :: xs, g⟩ = (zeroH, false, ⟨x :: xs, g⟩) := by
  simp only [qPop, hf, Bool.false_eq_true, if_false]
end Go.SyP
