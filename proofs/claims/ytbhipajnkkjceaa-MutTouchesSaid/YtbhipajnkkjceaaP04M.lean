/- Sets of keys: making, meeting, lessening (printed of P03). -/
import Derived.Test.YtbhipajnkkjceaaP04D
import Derived.Test.YtbhipajnkkjceaaG04W
set_option linter.unusedVariables false
set_option linter.unusedSimpArgs false
namespace Go.SyP
open Go Go.Sy Sets

theorem beyond_cons (p : Int) (T : api_Span) (l : List Sp) : beyond p (pa T :: l) = (if p < T.Lo then [(p, T.Lo)] else []) ++ beyond T.Hi l := rfl
def Good (a : List api_Span) : Prop := ∀ x ∈ a, Ok (pa x)
def Set' (a : List api_Span) : Prop := Canon (a.map pa) ∧ a.length ≤ 64
def Res (m : Int → Prop) (o : Option (List api_Span × Int)) : Prop := ∃ L : List api_Span, Canon (L.map pa) ∧ (∀ k, mem (L.map pa) k ↔ m k) ∧ o = some (if 64 < L.length then ([], 2) else (L, 0))
theorem sorted_lo (a : List api_Span) : (sortL api_Span.z span_Make_1 a).Pairwise fun x y => x.Lo ≤ y.Lo :=
  (sortL_sorted api_Span.z swo_span_Make_1 a).imp fun {x y} h => by
    rw [ltOf_Make_1] at h
    simp at h
    exact h

theorem make_loop (a : List api_Span) (ha : a.length ≤ 5000) (hg : Good a) : Res (fun k => mem (a.map pa) k) (goLoop (span_Make.step a) (.l1 0 [])) := by
  have hp := sortL_perm api_Span.z swo_span_Make_1 a
  have hso := sorted_lo a
  have hmem : ∀ k, mem ((sortL api_Span.z span_Make_1 a).map pa) k ↔ mem (a.map pa) k := fun k => mem_perm (hp.map pa)
  have hok : ∀ x ∈ sortL api_Span.z span_Make_1 a, Ok (pa x) := fun x hx => hg x (hp.mem_iff.1 hx)
  have hlen : (sortL api_Span.z span_Make_1 a).length ≤ 5000 := by rw [hp.length_eq]; exact ha
  unfold Res
  obtain ⟨r, h1, L, h2, h3, h4⟩ := for_post (step := span_Make.step a) (n := (sortL api_Span.z span_Make_1 a).length) (fun i (x : List api_Span) => span_Make.S.l1 (i : Int) x)
    (fun i x => Canon (x.map pa) ∧ (∀ k, mem (x.map pa) k ↔ mem (((sortL api_Span.z span_Make_1 a).take i).map pa) k) ∧ (∀ y ∈ x, ∀ z ∈ (sortL api_Span.z span_Make_1 a).drop i, y.Lo ≤ z.Lo) ∧ x.length ≤ i)
    (fun r => ∃ L : List api_Span, Canon (L.map pa) ∧ (∀ k, mem (L.map pa) k ↔ mem (a.map pa) k) ∧ r = if 64 < L.length then ([], 2) else (L, 0)) (by
      rintro x ⟨h1, h2, _, _⟩
      rw [take_all (Nat.le_refl _)] at h2
      simp only [span_Make.step, span_Make.l1]
      rw [if_neg (by omega)]
      unfold bnd span_limited
      by_cases h64 : 64 < x.length
      · rw [if_pos (by omega)]
        exact ⟨_, rfl, x, h1, fun k => (h2 k).trans (hmem k), by rw [if_pos h64]⟩
      · rw [if_neg (by omega)]
        exact ⟨_, rfl, x, h1, fun k => (h2 k).trans (hmem k), by rw [if_neg h64]⟩) (by
      rintro i x hi ⟨h1, h2, h3, h4⟩
      left
      have hd := drop_atI (l := sortL api_Span.z span_Make_1 a) (z := api_Span.z) hi
      have ht := take_atI (l := sortL api_Span.z span_Make_1 a) (z := api_Span.z) hi
      have hs1 : ((sortL api_Span.z span_Make_1 a).drop i).Pairwise fun x y => x.Lo ≤ y.Lo := hso.sublist (List.drop_sublist ..)
      have hox : Ok (pa ((sortL api_Span.z span_Make_1 a).getD (i : Int).toNat api_Span.z)) := hok _ (List.mem_of_mem_drop (by rw [hd]; exact List.mem_cons_self ..))
      simp only [span_Make.step, span_Make.l1]
      rw [if_pos (by omega), if_pos (by omega)]
      unfold span_Make.j1
      rw [hd] at h3 hs1
      generalize (sortL api_Span.z span_Make_1 a).getD (i : Int).toNat api_Span.z = S at hd ht hs1 hox h3 ⊢
      have hS := (List.pairwise_cons.1 hs1).1
      rw [wr1 hi (by omega)]
      have hox' := hox
      unfold Sets.Ok pa at hox'
      simp only at hox'
      have app : (∀ y ∈ x.map pa, y.2 < S.Lo) → ∃ y, (some (.inl (.l1 ((i + 1 : Nat) : Int) (x ++ [S]))) : Option (span_Make.S ⊕ (List api_Span × Int))) = some (.inl (.l1 ((i + 1 : Nat) : Int) y)) ∧ Canon (y.map pa) ∧ (∀ k, mem (y.map pa) k ↔ mem (((sortL api_Span.z span_Make_1 a).take (i + 1)).map pa) k) ∧ (∀ y' ∈ y, ∀ z ∈ (sortL api_Span.z span_Make_1 a).drop (i + 1), y'.Lo ≤ z.Lo) ∧ y.length ≤ i + 1 := by
        intro hlast
        refine ⟨_, rfl, ?_, fun k => ?_, fun y' hy' z hz => ?_, by simp; omega⟩
        · rw [List.map_append]
          exact canon_snoc.2 ⟨h1, hox, hlast⟩
        · rw [ht, List.map_append, List.map_append, mem_append, mem_append, h2 k]
        · rcases List.mem_append.1 hy' with hy' | hy'
          · exact h3 y' hy' z (List.mem_cons_of_mem _ hz)
          · simp at hy'; subst hy'; exact hS z hz
      rcases List.eq_nil_or_concat x with hx | ⟨o, Y, hx⟩
      · subst hx
        rw [if_neg (by decide), if_neg (by decide), if_pos (by simp)]
        exact app (by simp)
      · subst hx
        rw [List.concat_eq_append] at *
        have h4' : o.length + 1 ≤ i := by simpa using h4
        have hw : IntKind.wrap .i64 (((o ++ [Y]).length : Int) - 1) = (o.length : Int) := by
          rw [wr (by simp; omega)]; simp
        rw [hw, if_pos (by omega), if_pos (by simp; omega)]
        have hget : (o ++ [Y]).getD (o.length : Int).toNat api_Span.z = Y := by simp
        rw [hget]
        have hmap : (o ++ [Y]).map pa = o.map pa ++ [pa Y] := by rw [List.map_append]; rfl
        by_cases hc : S.Lo ≤ Y.Hi
        · rw [if_pos (decide_eq_true hc), if_pos (by simp; omega)]
          have hset : ∀ Z, (o ++ [Y]).set (o.length : Int).toNat Z = o ++ [Z] := fun Z => by simp
          rw [hset]
          have hYS : Y.Lo ≤ S.Lo := h3 Y (by simp) S (List.mem_cons_self ..)
          rw [hmap] at h1 h2
          have hc2 := canon_snoc.1 h1
          have hoY := hc2.2.1
          unfold Sets.Ok pa at hoY
          simp only at hoY
          have hmx : iMax Y.Hi S.Hi = max Y.Hi S.Hi := by unfold iMax; split <;> omega
          rw [hmx]
          refine ⟨_, rfl, ?_, fun k => ?_, fun y' hy' z hz => ?_, by simp at h4 ⊢; omega⟩
          · rw [List.map_append]
            refine canon_snoc.2 ⟨hc2.1, ?_, hc2.2.2⟩
            unfold Sets.Ok pa
            simp only
            omega
          · rw [ht, List.map_append, List.map_append, mem_append, mem_append, ← h2 k, mem_append]
            have e : mem (List.map pa [(⟨Y.Lo, max Y.Hi S.Hi⟩ : api_Span)]) k ↔ mem [pa Y] k ∨ mem (List.map pa [S]) k := by
              simp only [List.map_cons, List.map_nil, mem_cons, mem_nil, or_false, pa]
              omega
            rw [e, or_assoc]
          · rcases List.mem_append.1 hy' with hy' | hy'
            · exact h3 y' (List.mem_append_left _ hy') z (List.mem_cons_of_mem _ hz)
            · simp at hy'; subst hy'; exact h3 Y (by simp) z (List.mem_cons_of_mem _ hz)
        · rw [if_neg (by simpa using hc), if_pos (by omega)]
          refine app fun y hy => ?_
          rw [hmap] at h1 hy
          have := canon_last h1 y hy
          simp only [pa] at this
          omega) 0 [] (Nat.zero_le _) ⟨Canon.nil, fun k => by simp, fun y hy => by simp at hy, by simp⟩
  refine ⟨L, h2, h3, ?_⟩
  rw [← h4]
  exact h1

theorem odd_any (a : List api_Span) : (a.any fun z => span_odd z) = true ↔ ¬ Good a := by
  simp only [List.any_eq_true, span_odd, span_One_eq, Good]
  constructor
  · rintro ⟨x, hx, h⟩ hg
    rw [decide_eq_true (hg x hx)] at h
    cases h
  · intro h
    apply Classical.byContradiction
    intro hn
    refine h fun x hx => Classical.byContradiction fun ho => hn ⟨x, hx, ?_⟩
    rw [decide_eq_false ho]
    rfl
theorem span_Make_bad {a : List api_Span} (ha : a.length ≤ 5000) (h : ¬ Good a) : span_Make a = some ([], 1) := by
  unfold span_Make
  rw [contains_eq a (by omega), Option.bind_some, if_pos ((odd_any a).2 h)]
theorem span_Make_good {a : List api_Span} (ha : a.length ≤ 5000) (h : Good a) : Res (fun k => mem (a.map pa) k) (span_Make a) := by
  unfold span_Make
  have e : (a.any fun z => span_odd z) = false := by
    cases hb : a.any fun z => span_odd z with
    | false => rfl
    | true => exact absurd h ((odd_any a).1 hb)
  rw [contains_eq a (by omega), Option.bind_some, e, if_neg (by decide), if_pos (by omega)]
  exact make_loop a ha h

theorem res_cases {m : Int → Prop} {o : Option (List api_Span × Int)} (h : Res m o) : (∃ L, Set' L ∧ (∀ k, mem (L.map pa) k ↔ m k) ∧ o = some (L, 0)) ∨ o = some ([], 2) := by
  obtain ⟨L, h1, h2, h3⟩ := h
  by_cases h64 : 64 < L.length
  · rw [if_pos h64] at h3
    exact .inr h3
  · rw [if_neg h64] at h3
    exact .inl ⟨L, ⟨h1, by omega⟩, h2, h3⟩
theorem res_same {m m' : Int → Prop} {o o' : Option (List api_Span × Int)} (h : Res m o) (h' : Res m' o') (e : ∀ k, m k ↔ m' k) : o = o' := by
  obtain ⟨L, h1, h2, h3⟩ := h
  obtain ⟨L', h1', h2', h3'⟩ := h'
  have eq : L = L' := pa_inj (Canon.unique h1 h1' fun k => (h2 k).trans ((e k).trans (h2' k).symm))
  rw [h3, h3', eq]
theorem set_same {a b : List api_Span} (ha : Set' a) (hb : Set' b) (e : ∀ k, mem (a.map pa) k ↔ mem (b.map pa) k) : a = b := pa_inj (Canon.unique ha.1 hb.1 e)
/-- An answer that is known to be a set is that set. -/
theorem res_set {m : Int → Prop} {o : Option (List api_Span × Int)} {a : List api_Span} (h : Res m o) (ha : Set' a) (e : ∀ k, m k ↔ mem (a.map pa) k) : o = some (a, 0) := by
  obtain ⟨L, h1, h2, h3⟩ := h
  have eq : L = a := pa_inj (Canon.unique h1 ha.1 fun k => (h2 k).trans (e k))
  rw [h3, eq, if_neg (by have := ha.2; omega)]

theorem nil_set : Set' [] := ⟨Canon.nil, by simp⟩

theorem chk (a : List api_Span) (ha : a.length ≤ 5000) : ∃ r, span_Check a = some r ∧ (r = true ↔ Set' a) := by
  have h := span_Check_eq a (by omega)
  exact h
theorem chkT {a : List api_Span} (ha : a.length ≤ 5000) (h : Set' a) : span_Check a = some true := by
  obtain ⟨r, h1, h2⟩ := chk a ha
  rw [h1, h2.2 h]
theorem chkF {a : List api_Span} (ha : a.length ≤ 5000) (h : ¬ Set' a) : span_Check a = some false := by
  obtain ⟨r, h1, h2⟩ := chk a ha
  cases r with
  | false => exact h1
  | true => exact absurd (h2.1 rfl) h
theorem limited_res {L : List api_Span} {m : Int → Prop} (h1 : Canon (L.map pa)) (h2 : ∀ k, mem (L.map pa) k ↔ m k) : Res m (bnd (span_limited L) fun v => some (v.1, v.2)) := by
  refine ⟨L, h1, h2, ?_⟩
  simp only [bnd, span_limited]
  by_cases h64 : 64 < L.length
  · rw [if_pos (by omega), if_pos h64]
  · rw [if_neg (by omega), if_neg h64]

end Go.SyP
