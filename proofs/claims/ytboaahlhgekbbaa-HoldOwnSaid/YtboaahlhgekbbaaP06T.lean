/- Hold: all that is in a queue, in order. -/
import Derived.Test.YtboaahlhgekbbaaP06R
import Derived.Test.YtboaahlhgekbbaaG06MP
set_option linter.unusedVariables false
set_option linter.unusedSimpArgs false
namespace Go.SyP
open Go Go.Sy Go.Sort Go.Proofs

theorem sorted_unique : ∀ {A B : List api_Held}, A.Pairwise ltH → B.Pairwise ltH → A.Perm B → A = B
  | [], B, _, _, h => (List.nil_perm.1 h).symm
  | a :: A, [], _, _, h => by have := h.length_eq; simp at this
  | a :: A, b :: B, ha, hb, h => by
    have hab : a = b := by
      rcases List.mem_cons.1 (h.mem_iff.1 (List.mem_cons_self (a := a) (l := A))) with e | e
      · exact e
      · rcases List.mem_cons.1 (h.mem_iff.2 (List.mem_cons_self (a := b) (l := B))) with e2 | e2
        · exact e2.symm
        · exact absurd ((List.pairwise_cons.1 hb).1 a e) (ltH_asymm ((List.pairwise_cons.1 ha).1 b e2))
    subst hab
    rw [sorted_unique (List.pairwise_cons.1 ha).2 (List.pairwise_cons.1 hb).2 h.cons_inv]

theorem sort_q {L : List api_Held} {l : List Nat} {M : Nat → hold_item} (h : QI L l M) : (sortA l M l).map (fun a => (M a).h) = L ∧ ∀ a ∈ sortA l M l, a ∈ l := by
  have hO := swo_cfD swo_cfH l M
  have hp := sortL_perm 0 hO l
  have hs := sortL_sorted 0 hO l
  have hmem : ∀ a ∈ sortA l M l, a ∈ l := fun a ha => hp.mem_iff.1 ha
  refine ⟨?_, hmem⟩
  have hperm : ((sortA l M l).map (fun a => (M a).h)).Perm L := (hp.map _).trans h.perm
  refine sorted_unique ?_ h.good.up hperm
  have hap := (hperm.pairwise_iff fun h => apartK.symm h).2 h.good.apart
  rw [List.pairwise_map] at hap ⊢
  refine (hap.and hs).imp_of_mem fun {a b} ha hb hab => ?_
  obtain ⟨h1, h2⟩ := hab
  rcases ltH_total h1 with k | k
  · exact k
  · exfalso
    have ca : clampD l a = a := clamp_id (hmem a ha)
    have cb : clampD l b = b := clamp_id (hmem b hb)
    simp only [ltOf, cfD, cfH, ca, cb, decide_eq_false_iff_not] at h2
    exact h2 ((cmpS_lt _ _).2 k)

theorem All_q {L : List api_Held} {l : List Nat} {M : Nat → hold_item} (h : QI L l M) (hb : L.length ≤ 1000000) : hold_Queue_All ⟨⟨l⟩⟩ l M = some (L, ⟨⟨l⟩⟩) := by
  have hlen := h.len
  obtain ⟨hm, hsub⟩ := sort_q h
  unfold hold_Queue_All
  rw [if_pos ⟨fun _ h => h, by simp only; omega⟩]
  have hsl : (sortA l M l).length = l.length := sortL_length 0 (swo_cfD swo_cfH l M) l
  have key := for_post (step := hold_Queue_All.step ⟨⟨l⟩⟩ l M) (n := l.length) (fun i (out : List api_Held) => .l1 (i : Int) out) (fun i out => out = ((sortA l M l).take i).map fun a => (M a).h)
    (fun r => r = (L, ⟨⟨l⟩⟩)) ?_ ?_ 0 [] (Nat.zero_le _) rfl
  · obtain ⟨r, h1, rfl⟩ := key
    exact h1
  · rintro out rfl
    refine ⟨_, ?_, rfl⟩
    simp only [hold_Queue_All.step, hold_Queue_All.l1]
    rw [if_neg (by omega), List.take_of_length_le (by omega), hm]
  · rintro i out hi rfl
    left
    simp only [hold_Queue_All.step, hold_Queue_All.l1, Int.toNat_natCast]
    have hmem : (sortA l M l).getD i 0 ∈ l := hsub _ (getD_mem (by omega))
    rw [if_pos (by omega), if_pos (by omega), if_pos hmem, own_eq (h.good.small _ (h.mem hmem)), Option.bind_some]
    refine ⟨((sortA l M l).take (i + 1)).map fun a => (M a).h, ?_, rfl⟩
    rw [if_pos (by rw [List.length_map, List.length_take]; omega), wr1 hi (by omega)]
    rw [take_at (z := 0) (show i < (sortA l M l).length by omega), List.map_append, List.map_singleton]
end Go.SyP
