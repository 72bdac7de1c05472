/- What the functions of span and of its reference answer. -/
import Derived.Test.YtkgiljggkgfkjaaP03C
set_option linter.unusedVariables false
set_option linter.unusedSimpArgs false
namespace Go.SyP
open Go Go.Sy Sets Go.Sort Go.Proofs

def Good (a : List api_Span) : Prop := ∀ x ∈ a, Ok (pa x)
def Set' (a : List api_Span) : Prop := Canon (a.map pa) ∧ a.length ≤ 64
def Res (m : Int → Prop) (o : Option (List api_Span × Int)) : Prop := ∃ L : List api_Span, Canon (L.map pa) ∧ (∀ k, mem (L.map pa) k ↔ m k) ∧ o = some (if 64 < L.length then ([], 2) else (L, 0))
def ResR (m : Int → Prop) (o : Option (List spliceref03_Span × Int)) : Prop := ∃ L : List spliceref03_Span, Canon (L.map pr) ∧ (∀ k, mem (L.map pr) k ↔ m k) ∧ o = some (if 64 < L.length then ([], 2) else (L, 0))

theorem mem_nat {l : List Sp} (h : Canon l) {m : Int → Prop} (hm : ∀ k, m k → 0 ≤ k ∧ k < 4096) (e : ∀ n : Nat, n < 4096 → (mem l n ↔ m n)) (k : Int) : mem l k ↔ m k := by
  constructor
  · intro h1
    have hb := h.bound h1
    obtain ⟨n, rfl⟩ : ∃ n : Nat, k = n := ⟨k.toNat, by omega⟩
    exact (e n (by omega)).1 h1
  · intro h1
    have hb := hm k h1
    obtain ⟨n, rfl⟩ : ∃ n : Nat, k = n := ⟨k.toNat, by omega⟩
    exact (e n (by omega)).2 h1

theorem set_res {f : Nat → Bool} {m : Int → Prop} (hm : ∀ k, m k → 0 ≤ k ∧ k < 4096) (e : ∀ n : Nat, n < 4096 → (f n = true ↔ m n)) : ResR m (spliceref03_Set (keysOf f)) := by
  obtain ⟨L, h1, h2, h3⟩ := Set_eq f
  exact ⟨L, h1, mem_nat h1 hm fun n hn => (h2 n hn).trans (e n hn), h3⟩

theorem Same_eq (x y : List spliceref03_Span) (hn : x.length ≤ 5000) : ∃ r, spliceref03_Same x y = some r ∧ (r = true ↔ x = y) := by
  unfold spliceref03_Same
  by_cases hl : (x.length : Int) = (y.length : Int)
  · rw [if_pos hl]
    have hl' : x.length = y.length := by omega
    have ext : ∀ (u v : spliceref03_Span), u.Lo = v.Lo → u.Hi = v.Hi → u = v := by
      intro u v h1 h2
      cases u; cases v
      simp only at h1 h2
      rw [h1, h2]
    refine for_post (n := x.length) (fun i (_ : Unit) => spliceref03_Same.S.l1 (i : Int)) (fun i _ => x.take i = y.take i) _ ?_ ?_ 0 () (Nat.zero_le _) rfl
    · intro _ h
      rw [take_all (Nat.le_refl _), take_all (by omega)] at h
      exact ⟨true, by simp [spliceref03_Same.step, spliceref03_Same.l1], by simpa using h⟩
    · intro i _ hi h
      have e1 := take_atI (z := spliceref03_Span.z) hi
      have e2 := take_atI (l := y) (z := spliceref03_Span.z) (i := i) (by omega)
      have hne : x.getD (i : Int).toNat spliceref03_Span.z ≠ y.getD (i : Int).toNat spliceref03_Span.z → (∃ r, (some (.inr false) : Option (spliceref03_Same.S ⊕ Bool)) = some (.inr r) ∧ (r = true ↔ x = y)) := fun hne => ⟨false, rfl, by
        simp only [Bool.false_eq_true, false_iff]
        rintro rfl
        exact hne rfl⟩
      simp only [spliceref03_Same.step, spliceref03_Same.l1]
      rw [if_pos (by omega), if_pos (by omega), if_pos (by omega)]
      generalize x.getD (i : Int).toNat spliceref03_Span.z = X at e1 hne ⊢
      generalize y.getD (i : Int).toNat spliceref03_Span.z = Y at e2 hne ⊢
      by_cases h1 : X.Lo = Y.Lo
      · rw [if_pos h1]
        by_cases h2 : X.Hi = Y.Hi
        · rw [if_pos h2]
          left
          refine ⟨(), by rw [wr1' (by omega)], ?_⟩
          rw [e1, e2, h, ext X Y h1 h2]
        · rw [if_neg h2]
          right
          exact hne fun e => h2 (by rw [e])
      · rw [if_neg h1]
        right
        split <;> exact hne fun e => h1 (by rw [e])
  · rw [if_neg hl]
    refine ⟨false, rfl, ?_⟩
    simp only [Bool.false_eq_true, false_iff]
    rintro rfl
    exact hl rfl

theorem toR_inj {a b : List api_Span} (h : a.map toR = b.map toR) : a = b := by
  apply pa_inj
  rw [← pr_toR, ← pr_toR, h]
theorem alike_eq (a b : List api_Span) (ha : a.length ≤ 5000) (hb : b.length ≤ 5000) : ∃ v, splicelaw03_alike a b = some v ∧ (v = true ↔ a = b) := by
  unfold splicelaw03_alike
  rw [Refs_eq a ha, Option.bind_some, Refs_eq b hb, Option.bind_some]
  obtain ⟨r, h1, h2⟩ := Same_eq (a.map toR) (b.map toR) (by simpa using ha)
  rw [h1]
  refine ⟨r, rfl, h2.trans ⟨toR_inj, fun h => by rw [h]⟩⟩
theorem same_true {s : List api_Span} (hs : s.length ≤ 5000) (e : Int) : splicelaw03_same s e (s.map toR) e = some true := by
  unfold splicelaw03_same
  rw [Refs_eq s hs, Option.bind_some]
  obtain ⟨r, h1, h2⟩ := Same_eq (s.map toR) (s.map toR) (by simpa using hs)
  rw [h1, Option.bind_some, h2.2 rfl, if_pos rfl]
  simp [splicelaw03_same.j1]

theorem same_res {m m' : Int → Prop} {o : Option (List api_Span × Int)} {o' : Option (List spliceref03_Span × Int)} (h : Res m o) (h' : ResR m' o') (e : ∀ k, m k ↔ m' k) :
    ∃ v v', o = some v ∧ o' = some v' ∧ splicelaw03_same v.1 v.2 v'.1 v'.2 = some true := by
  obtain ⟨L, h1, h2, h3⟩ := h
  obtain ⟨L', h1', h2', h3'⟩ := h'
  have eq : L.map pa = L'.map pr := Canon.unique h1 h1' fun k => (h2 k).trans ((e k).trans (h2' k).symm)
  have eq2 : L.map toR = L' := pr_inj (by rw [pr_toR, eq])
  have hl : L.length = L'.length := by rw [← eq2]; simp
  refine ⟨_, _, h3, h3', ?_⟩
  rw [← hl, ← eq2]
  by_cases h64 : 64 < L.length
  · rw [if_pos h64, if_pos h64]
    exact same_true (s := []) (by simp) 2
  · rw [if_neg h64, if_neg h64]
    exact same_true (s := L) (by omega) 0

/-! ### Make -/
theorem sorted_lo (a : List api_Span) : (sortL api_Span.z span_Make_1 a).Pairwise fun x y => x.Lo ≤ y.Lo :=
  (sortL_sorted api_Span.z swo_span_Make_1 a).imp fun {x y} h => by
    rw [ltOf_Make_1] at h
    simp at h
    exact h

theorem make_loop (a : List api_Span) (ha : a.length ≤ 5000) (hg : Good a) : Res (fun k => mem (a.map pa) k) (goLoop (span_Make.step a) (.l1 0 [])) := by
  have hp := sortL_perm api_Span.z swo_span_Make_1 a
  have hso := sorted_lo a
  have hmem : ∀ k, mem ((sortL api_Span.z span_Make_1 a).map pa) k ↔ mem (a.map pa) k := fun k => mem_perm (hp.map pa)
  have hok : ∀ x ∈ sortL api_Span.z span_Make_1 a, Ok (pa x) := fun x hx => hg x (hp.mem_iff.1 hx)
  have hlen : (sortL api_Span.z span_Make_1 a).length ≤ 5000 := by rw [hp.length_eq]; exact ha
  unfold Res
  obtain ⟨r, h1, L, h2, h3, h4⟩ := for_post (step := span_Make.step a) (n := (sortL api_Span.z span_Make_1 a).length) (fun i (x : List api_Span) => span_Make.S.l1 (i : Int) x)
    (fun i x => Canon (x.map pa) ∧ (∀ k, mem (x.map pa) k ↔ mem (((sortL api_Span.z span_Make_1 a).take i).map pa) k) ∧ (∀ y ∈ x, ∀ z ∈ (sortL api_Span.z span_Make_1 a).drop i, y.Lo ≤ z.Lo) ∧ x.length ≤ i)
    (fun r => ∃ L : List api_Span, Canon (L.map pa) ∧ (∀ k, mem (L.map pa) k ↔ mem (a.map pa) k) ∧ r = if 64 < L.length then ([], 2) else (L, 0)) (by
      rintro x ⟨h1, h2, _, _⟩
      rw [take_all (Nat.le_refl _)] at h2
      simp only [span_Make.step, span_Make.l1]
      rw [if_neg (by omega)]
      unfold bnd span_limited
      by_cases h64 : 64 < x.length
      · rw [if_pos (by omega)]
        exact ⟨_, rfl, x, h1, fun k => (h2 k).trans (hmem k), by rw [if_pos h64]⟩
      · rw [if_neg (by omega)]
        exact ⟨_, rfl, x, h1, fun k => (h2 k).trans (hmem k), by rw [if_neg h64]⟩) (by
      rintro i x hi ⟨h1, h2, h3, h4⟩
      left
      have hd := drop_atI (l := sortL api_Span.z span_Make_1 a) (z := api_Span.z) hi
      have ht := take_atI (l := sortL api_Span.z span_Make_1 a) (z := api_Span.z) hi
      have hs1 : ((sortL api_Span.z span_Make_1 a).drop i).Pairwise fun x y => x.Lo ≤ y.Lo := hso.sublist (List.drop_sublist ..)
      have hox : Ok (pa ((sortL api_Span.z span_Make_1 a).getD (i : Int).toNat api_Span.z)) := hok _ (List.mem_of_mem_drop (by rw [hd]; exact List.mem_cons_self ..))
      simp only [span_Make.step, span_Make.l1]
      rw [if_pos (by omega), if_pos (by omega)]
      unfold span_Make.j1
      rw [hd] at h3 hs1
      generalize (sortL api_Span.z span_Make_1 a).getD (i : Int).toNat api_Span.z = S at hd ht hs1 hox h3 ⊢
      have hS := (List.pairwise_cons.1 hs1).1
      rw [wr1 hi (by omega)]
      have hox' := hox
      unfold Sets.Ok pa at hox'
      simp only at hox'
      have app : (∀ y ∈ x.map pa, y.2 < S.Lo) → ∃ y, (some (.inl (.l1 ((i + 1 : Nat) : Int) (x ++ [S]))) : Option (span_Make.S ⊕ (List api_Span × Int))) = some (.inl (.l1 ((i + 1 : Nat) : Int) y)) ∧ Canon (y.map pa) ∧ (∀ k, mem (y.map pa) k ↔ mem (((sortL api_Span.z span_Make_1 a).take (i + 1)).map pa) k) ∧ (∀ y' ∈ y, ∀ z ∈ (sortL api_Span.z span_Make_1 a).drop (i + 1), y'.Lo ≤ z.Lo) ∧ y.length ≤ i + 1 := by
        intro hlast
        refine ⟨_, rfl, ?_, fun k => ?_, fun y' hy' z hz => ?_, by simp; omega⟩
        · rw [List.map_append]
          exact canon_snoc.2 ⟨h1, hox, hlast⟩
        · rw [ht, List.map_append, List.map_append, mem_append, mem_append, h2 k]
        · rcases List.mem_append.1 hy' with hy' | hy'
          · exact h3 y' hy' z (List.mem_cons_of_mem _ hz)
          · simp at hy'; subst hy'; exact hS z hz
      rcases List.eq_nil_or_concat x with hx | ⟨o, Y, hx⟩
      · subst hx
        rw [if_neg (by decide), if_neg (by decide), if_pos (by simp)]
        exact app (by simp)
      · subst hx
        rw [List.concat_eq_append] at *
        have h4' : o.length + 1 ≤ i := by simpa using h4
        have hw : IntKind.wrap .i64 (((o ++ [Y]).length : Int) - 1) = (o.length : Int) := by
          rw [wr (by simp; omega)]; simp
        rw [hw, if_pos (by omega), if_pos (by simp; omega)]
        have hget : (o ++ [Y]).getD (o.length : Int).toNat api_Span.z = Y := by simp
        rw [hget]
        have hmap : (o ++ [Y]).map pa = o.map pa ++ [pa Y] := by rw [List.map_append]; rfl
        by_cases hc : S.Lo ≤ Y.Hi
        · rw [if_pos (decide_eq_true hc), if_pos (by simp; omega)]
          have hset : ∀ Z, (o ++ [Y]).set (o.length : Int).toNat Z = o ++ [Z] := fun Z => by simp
          rw [hset]
          have hYS : Y.Lo ≤ S.Lo := h3 Y (by simp) S (List.mem_cons_self ..)
          rw [hmap] at h1 h2
          have hc2 := canon_snoc.1 h1
          have hoY := hc2.2.1
          unfold Sets.Ok pa at hoY
          simp only at hoY
          have hmx : iMax Y.Hi S.Hi = max Y.Hi S.Hi := by unfold iMax; split <;> omega
          rw [hmx]
          refine ⟨_, rfl, ?_, fun k => ?_, fun y' hy' z hz => ?_, by simp at h4 ⊢; omega⟩
          · rw [List.map_append]
            refine canon_snoc.2 ⟨hc2.1, ?_, hc2.2.2⟩
            unfold Sets.Ok pa
            simp only
            omega
          · rw [ht, List.map_append, List.map_append, mem_append, mem_append, ← h2 k, mem_append]
            have e : mem (List.map pa [(⟨Y.Lo, max Y.Hi S.Hi⟩ : api_Span)]) k ↔ mem [pa Y] k ∨ mem (List.map pa [S]) k := by
              simp only [List.map_cons, List.map_nil, mem_cons, mem_nil, or_false, pa]
              omega
            rw [e, or_assoc]
          · rcases List.mem_append.1 hy' with hy' | hy'
            · exact h3 y' (List.mem_append_left _ hy') z (List.mem_cons_of_mem _ hz)
            · simp at hy'; subst hy'; exact h3 Y (by simp) z (List.mem_cons_of_mem _ hz)
        · rw [if_neg (by simpa using hc), if_pos (by omega)]
          refine app fun y hy => ?_
          rw [hmap] at h1 hy
          have := canon_last h1 y hy
          simp only [pa] at this
          omega) 0 [] (Nat.zero_le _) ⟨Canon.nil, fun k => by simp, fun y hy => by simp at hy, by simp⟩
  refine ⟨L, h2, h3, ?_⟩
  rw [← h4]
  exact h1

theorem odd_any (a : List api_Span) : (a.any fun z => span_odd z) = true ↔ ¬ Good a := by
  simp only [List.any_eq_true, span_odd, span_One_eq, Good]
  constructor
  · rintro ⟨x, hx, h⟩ hg
    rw [decide_eq_true (hg x hx)] at h
    cases h
  · intro h
    apply Classical.byContradiction
    intro hn
    refine h fun x hx => Classical.byContradiction fun ho => hn ⟨x, hx, ?_⟩
    rw [decide_eq_false ho]
    rfl
theorem span_Make_bad {a : List api_Span} (ha : a.length ≤ 5000) (h : ¬ Good a) : span_Make a = some ([], 1) := by
  unfold span_Make
  rw [contains_eq a (by omega), Option.bind_some, if_pos ((odd_any a).2 h)]
theorem span_Make_good {a : List api_Span} (ha : a.length ≤ 5000) (h : Good a) : Res (fun k => mem (a.map pa) k) (span_Make a) := by
  unfold span_Make
  have e : (a.any fun z => span_odd z) = false := by
    cases hb : a.any fun z => span_odd z with
    | false => rfl
    | true => exact absurd h ((odd_any a).1 hb)
  rw [contains_eq a (by omega), Option.bind_some, e, if_neg (by decide), if_pos (by omega)]
  exact make_loop a ha h

theorem ref_Make_eq (a : List api_Span) (ha : a.length ≤ 5000) : (¬ Good a → spliceref03_Make (a.map toR) = some ([], 1)) ∧ (Good a → ResR (fun k => mem (a.map pa) k) (spliceref03_Make (a.map toR))) := by
  have key : ∃ r, spliceref03_Make (a.map toR) = some r ∧ ((¬ Good a → r = ([], 1)) ∧ (Good a → ResR (fun k => mem (a.map pa) k) (some r))) := by
    unfold spliceref03_Make
    refine for_post (n := (a.map toR).length) (fun i (_ : Unit) => spliceref03_Make.S.l1 (i : Int)) (fun i _ => ∀ x ∈ (a.map toR).take i, Ok (pr x)) _ ?_ ?_ 0 () (Nat.zero_le _) (fun x hx => by simp at hx)
    · intro _ h
      rw [take_all (Nat.le_refl _)] at h
      have hg : Good a := fun x hx => h (toR x) (List.mem_map_of_mem hx)
      simp only [spliceref03_Make.step, spliceref03_Make.l1]
      rw [if_neg (by omega), Keys_eq _ (by simpa using ha), Option.bind_some, pr_toR]
      have hr : ResR (fun k => mem (a.map pa) k) (spliceref03_Set (keys (a.map pa))) := by
        unfold keys
        have hf : (a.map pa).filter (fun x => decide (Ok x)) = a.map pa := by
          rw [List.filter_eq_self]
          intro x hx
          obtain ⟨y, hy, rfl⟩ := List.mem_map.1 hx
          exact decide_eq_true (hg y hy)
        rw [hf]
        refine set_res ?_ fun n _ => memB_iff
        rintro k ⟨x, hx, h1, h2⟩
        obtain ⟨y, hy, rfl⟩ := List.mem_map.1 hx
        have := hg y hy
        unfold Sets.Ok at this
        omega
      obtain ⟨L, h1, h2, h3⟩ := hr
      rw [h3, Option.bind_some]
      exact ⟨_, rfl, fun h => absurd hg h, fun _ => ⟨L, h1, h2, rfl⟩⟩
    · intro i _ hi h
      have hil : i < a.length := by simpa using hi
      have ht := take_atI (l := a.map toR) (z := spliceref03_Span.z) hi
      simp only [spliceref03_Make.step, spliceref03_Make.l1]
      rw [if_pos (by omega), if_pos (by omega), spliceref03_One_eq]
      have hin : (a.map toR).getD (i : Int).toNat spliceref03_Span.z ∈ a.map toR := by
        have := drop_atI (l := a.map toR) (z := spliceref03_Span.z) hi
        exact List.mem_of_mem_drop (i := i) (by rw [this]; exact List.mem_cons_self ..)
      generalize (a.map toR).getD (i : Int).toNat spliceref03_Span.z = X at ht hin ⊢
      by_cases ho : Ok (pr X)
      · rw [decide_eq_true ho, if_pos rfl]
        left
        refine ⟨(), by rw [wr1' (by simp at hi; omega)], fun x hx => ?_⟩
        rw [ht] at hx
        rcases List.mem_append.1 hx with hx | hx
        · exact h x hx
        · simp at hx; subst hx; exact ho
      · rw [decide_eq_false ho, if_neg (by decide)]
        right
        refine ⟨_, rfl, fun _ => rfl, fun hg => ?_⟩
        obtain ⟨y, hy, rfl⟩ := List.mem_map.1 hin
        exact absurd (hg y hy) ho
  obtain ⟨r, h1, h2, h3⟩ := key
  exact ⟨fun h => by rw [h1, h2 h], fun h => by rw [h1]; exact h3 h⟩

theorem concat_eq (a b : List api_Span) (ha : a.length ≤ 2000) (hb : b.length ≤ 2000) : slices_Concat_api_Span [a, b] = some (a ++ b) := by
  unfold slices_Concat_api_Span
  have w0 : IntKind.wrap .i64 ((0 : Int) + (a.length : Int)) = (a.length : Int) := by rw [wr (by omega)]; omega
  have w1 : IntKind.wrap .i64 ((a.length : Int) + (b.length : Int)) = (a.length : Int) + (b.length : Int) := wr (by omega)
  have w2 : IntKind.wrap .i64 ((0 : Int) + 1) = 1 := by decide
  have w3 : IntKind.wrap .i64 ((1 : Int) + 1) = 2 := by decide
  rw [loop_eq]
  simp only [slices_Concat_api_Span.step, slices_Concat_api_Span.l1]
  rw [if_pos (by simp), if_pos (by simp), show ([a, b] : List (List api_Span)).getD (0 : Int).toNat [] = a from rfl, w0]
  simp only [bnd]
  rw [if_neg (by omega), w2]
  simp only [stk]
  rw [loop_eq]
  simp only [slices_Concat_api_Span.step, slices_Concat_api_Span.l1]
  rw [if_pos (by simp), if_pos (by simp), show ([a, b] : List (List api_Span)).getD (1 : Int).toNat [] = b from rfl, w1]
  simp only [bnd]
  rw [if_neg (by omega), w3]
  simp only [stk]
  rw [loop_eq]
  simp only [slices_Concat_api_Span.step, slices_Concat_api_Span.l1]
  rw [if_neg (by simp), if_pos (by omega)]
  simp only [stk]
  rw [loop_eq]
  simp only [slices_Concat_api_Span.step, slices_Concat_api_Span.l2]
  rw [if_pos (by simp), if_pos (by simp), show ([a, b] : List (List api_Span)).getD (0 : Int).toNat [] = a from rfl, w2, if_pos (by simp; omega)]
  simp only [stk]
  rw [loop_eq]
  simp only [slices_Concat_api_Span.step, slices_Concat_api_Span.l2]
  rw [if_pos (by simp), if_pos (by simp), show ([a, b] : List (List api_Span)).getD (1 : Int).toNat [] = b from rfl, w3, if_pos (by simp; omega)]
  simp only [stk]
  rw [loop_eq]
  simp only [slices_Concat_api_Span.step, slices_Concat_api_Span.l2]
  rw [if_neg (by simp)]
  simp [stk]
end Go.SyP
