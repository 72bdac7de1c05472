/- What a mutation touches. -/
import Derived.Test.YtbhipajnkkjceaaP04E
import Derived.Test.YtbhipajnkkjceaaP04M
set_option linter.unusedVariables false
set_option linter.unusedSimpArgs false
namespace Go.SyP
open Go Go.Sy Sets

theorem getD_in5 {α : Type} {l : List α} {i : Nat} {z : α} (h : i < l.length) : l.getD i z ∈ l := by
  simp [List.getD_eq_getElem?_getD, h]

theorem SOk_one {x : api_Span} (h : Ok (pa x)) : SOk [x] := ⟨⟨fun y hy => by simp at hy; subst hy; exact h, by simp⟩, by simp⟩
theorem hasB_one {x : api_Span} (h : Ok (pa x)) (k : Int) : hasB [x] k = (decide (x.Lo ≤ k) && decide (k < x.Hi)) := by
  unfold hasB
  simp only [List.map_cons, List.map_nil, List.any_cons, List.any_nil, decide_eq_true h, Bool.true_and, Bool.or_false]
  rfl
theorem nodup_len : ∀ (l m : List Int), l.Nodup → (∀ x ∈ l, x ∈ m) → l.length ≤ m.length
  | [], _, _, _ => by simp
  | x :: l, m, h, hs => by
    obtain ⟨h1, h2⟩ := List.nodup_cons.1 h
    have hx := hs x (List.mem_cons_self ..)
    have := nodup_len l (m.erase x) h2 fun y hy => (List.mem_erase_of_ne (fun e => h1 (by rw [← e]; exact hy))).2 (hs y (List.mem_cons_of_mem _ hy))
    rw [List.length_erase_of_mem hx] at this
    have : 0 < m.length := List.length_pos_of_mem hx
    simp only [List.length_cons]
    omega
theorem hasB_mem {on : List api_Span} (h : SOk on) (k : Int) : hasB on k = true ↔ mem (on.map pa) k := hasB_iff h
theorem tou_range {m : api_Mut} (hm : MutIs m) {k : Int} (h : touB m k = true) : 0 ≤ k ∧ k < 4096 := by
  unfold touB at h
  by_cases k2 : m.Kind = 2
  · rw [if_pos k2] at h
    have := hm.over k2
    simp only [Bool.and_eq_true, decide_eq_true_eq] at h
    unfold Ok pa at this
    omega
  · rw [if_neg k2] at h
    cases hl : look m.Pairs k with
    | none => rw [hl] at h; cases h
    | some v =>
      have := hm.ok _ (look_mem hl)
      exact ⟨this.1, this.2.1⟩
theorem mut_Touch_eq {m : api_Mut} (h : mOk m = true) : ∃ T, mut_Touch m = some T ∧ SOk T ∧ ∀ k, mem (T.map pa) k ↔ touB m k = true := by
  have hm := mutIs h
  have hl := hm.len
  unfold mut_Touch
  rw [mut_Check_eq m (by omega), Option.bind_some, if_pos h]
  by_cases k2 : m.Kind = 2
  · rw [if_pos k2]
    refine ⟨_, rfl, SOk_one (hm.over k2), fun k => ?_⟩
    unfold touB
    rw [if_pos k2]
    simp only [List.map_cons, List.map_nil, mem_cons, Bool.and_eq_true, decide_eq_true_eq]
    constructor
    · rintro (h | h)
      · exact h
      · exact absurd h mem_nil
    · exact fun h => .inl h
  · rw [if_neg k2]
    let S : List api_Span := m.Pairs.map fun p => ⟨p.Key, p.Key + 1⟩
    have hS : Good S := fun x hx => by
      obtain ⟨p, hp, rfl⟩ := List.mem_map.1 hx
      have := hm.ok p hp
      exact ⟨this.1, by show p.Key < p.Key + 1; omega, by show p.Key + 1 ≤ 4096; have := this.2.1; omega⟩
    have hmem : ∀ k, mem (S.map pa) k ↔ touB m k = true := fun k => by
      unfold touB
      rw [if_neg k2]
      constructor
      · rintro ⟨x, hx, h1, h2⟩
        obtain ⟨y, hy, rfl⟩ := List.mem_map.1 hx
        obtain ⟨p, hp, rfl⟩ := List.mem_map.1 hy
        have : p.Key = k := by simp only [pa] at h1 h2; omega
        subst this
        cases hq : look m.Pairs p.Key with
        | some v => rfl
        | none => exact absurd rfl (look_isNone hq p hp)
      · intro hq
        cases hl : look m.Pairs k with
        | none => rw [hl] at hq; cases hq
        | some v =>
          have := look_mem hl
          exact ⟨(k, k + 1), List.mem_map.2 ⟨⟨k, k + 1⟩, List.mem_map.2 ⟨_, this, rfl⟩, rfl⟩, Int.le_refl _, by show k < k + 1; omega⟩
    obtain ⟨r, e1, e2⟩ : ∃ r, goLoop (mut_Touch.step m) (.l1 0 []) = some r ∧ ∃ v, span_Make S = some v ∧ r = v.1 := by
      refine for_post (n := m.Pairs.length) (fun i x => mut_Touch.S.l1 (i : Int) x) (fun i x => x = (m.Pairs.take i).map fun p => (⟨p.Key, p.Key + 1⟩ : api_Span)) _ ?_ ?_ 0 [] (Nat.zero_le _) rfl
      · rintro x rfl
        rw [take_all (Nat.le_refl _)]
        rcases res_cases (span_Make_good (a := S) (by simp [S]; omega) hS) with ⟨L, _, _, e⟩ | e
        · exact ⟨L, by simp only [mut_Touch.step, mut_Touch.l1, Int.lt_irrefl, if_false]; rw [show m.Pairs.map (fun p => (⟨p.Key, p.Key + 1⟩ : api_Span)) = S from rfl, e]; rfl, _, e, rfl⟩
        · exact ⟨[], by simp only [mut_Touch.step, mut_Touch.l1, Int.lt_irrefl, if_false]; rw [show m.Pairs.map (fun p => (⟨p.Key, p.Key + 1⟩ : api_Span)) = S from rfl, e]; rfl, _, e, rfl⟩
      · rintro i x hi rfl
        left
        have hstep : (0 : Int) ≤ (i : Int) ∧ (i : Int) < (m.Pairs.length : Int) := by omega
        have hx := take_at (l := m.Pairs) (z := api_Pair.z) hi
        have hok := hm.ok _ (getD_in5 (z := api_Pair.z) hi)
        simp only [mut_Touch.step, mut_Touch.l1, hstep.2, if_true, hstep, and_self, show (i : Int).toNat = i from rfl, wr1 hi (by omega : m.Pairs.length ≤ 9223372036854775807)]
        rw [if_pos (by rw [List.length_map, List.length_take]; omega), wr (by have := hok.1; have := hok.2.1; omega), hx, List.map_append]
        exact ⟨_, rfl, rfl⟩
    obtain ⟨v, e3, rfl⟩ := e2
    rw [e1]
    have hres := span_Make_good (a := S) (by simp [S]; omega) hS
    obtain ⟨L, h1, h2, h3⟩ := hres
    have hlen : L.length ≤ 64 := by
      -- no more spans than keys
      have : ∀ (L : List Sp), Canon L → ∀ ks : List Int, (∀ k, mem L k → k ∈ ks) → L.length ≤ ks.length := by
        intro L hL ks hk
        have hnd : (L.map (·.1)).Nodup := List.pairwise_map.2 (hL.apart.imp_of_mem fun {x y} hx hy h => by
          have := hL.ok x hx
          unfold Sets.Ok at this
          intro e
          omega)
        have hsub : L.map (·.1) ⊆ ks := fun z hz => by
          obtain ⟨x, hx, rfl⟩ := List.mem_map.1 hz
          have := hL.ok x hx
          exact hk _ ⟨x, hx, Int.le_refl _, this.2.1⟩
        have := nodup_len (L.map (·.1)) ks hnd fun z hz => hsub hz
        simpa using this
      have := this (L.map pa) h1 (m.Pairs.map (·.Key)) (fun k hk => by
        have ht := (hmem k).1 ((h2 k).1 hk)
        unfold touB at ht
        rw [if_neg k2] at ht
        cases hl : look m.Pairs k with
        | none => rw [hl] at ht; cases ht
        | some v => exact List.mem_map.2 ⟨_, look_mem hl, rfl⟩)
      simp only [List.length_map] at this
      omega
    rw [if_neg (by omega)] at h3
    rw [h3] at e3
    injection e3 with e3
    subst e3
    exact ⟨L, rfl, ⟨h1, hlen⟩, fun k => (h2 k).trans (hmem k)⟩
theorem alone_eq (m : api_Mut) (hn : m.Pairs.length ≤ 5000) : mut_Alone m = some (mOk m && (decide (m.Kind = 3) || decide (m.Kind = 4))) := by
  have eta : (⟨m.Client, m.Seq, m.Kind, m.Pairs, (⟨m.Over.Lo, m.Over.Hi⟩ : api_Span), m.Old⟩ : api_Mut) = m := rfl
  unfold mut_Alone mut_Alone.j1
  rw [mut_Check_eq m hn, Option.bind_some]
  cases mOk m with
  | false => rfl
  | true =>
    rw [if_pos rfl]
    by_cases h : m.Kind = 3
    · rw [if_pos h, decide_eq_true h]; rfl
    · rw [if_neg h, decide_eq_false h]
      simp only [Bool.true_and, Bool.false_or]
      rfl

end Go.SyP
