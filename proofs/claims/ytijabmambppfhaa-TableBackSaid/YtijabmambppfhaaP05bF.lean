/- Tables: what the document makes of a table. -/
import Derived.Test.YtijabmambppfhaaP05bE
set_option linter.unusedVariables false
set_option linter.unusedSimpArgs false
namespace Go.SyP
open Go Go.Sy Sets

/-! ### Keys -/
def insI : List Int → Int → List Int
  | [], n => [n]
  | x :: l, n => if x < n then x :: insI l n else if x = n then x :: l else n :: x :: l
theorem mem_insI : ∀ {l : List Int} {n j : Int}, j ∈ insI l n ↔ j ∈ l ∨ j = n
  | [], n, j => by simp [insI]
  | x :: l, n, j => by
    simp only [insI]
    split
    · rw [List.mem_cons, mem_insI, List.mem_cons, or_assoc]
    · split
      · rename_i h
        subst h
        simp only [List.mem_cons]
        constructor
        · exact .inl
        · rintro (h | h)
          · exact h
          · exact .inl h
      · simp only [List.mem_cons]
        constructor
        · rintro (h | h)
          · exact .inr h
          · exact .inl h
        · rintro (h | h)
          · exact .inr h
          · exact .inl h
theorem insI_up : ∀ {l : List Int} (n : Int), l.Pairwise (· < ·) → (insI l n).Pairwise (· < ·)
  | [], n, _ => by simp [insI]
  | x :: l, n, h => by
    have h1 := (List.pairwise_cons.1 h).1
    have h2 := (List.pairwise_cons.1 h).2
    simp only [insI]
    split
    · rename_i hx
      refine List.pairwise_cons.2 ⟨fun y hy => ?_, insI_up n h2⟩
      rcases mem_insI.1 hy with hy | rfl
      · exact h1 y hy
      · exact hx
    · split
      · exact h
      · refine List.pairwise_cons.2 ⟨fun y hy => ?_, h⟩
        rcases List.mem_cons.1 hy with rfl | hy
        · omega
        · have := h1 y hy; omega
theorem insI_length : ∀ (l : List Int) (n : Int), (insI l n).length ≤ l.length + 1
  | [], _ => by simp [insI]
  | x :: l, n => by
    simp only [insI]
    split
    · have := insI_length l n
      simp only [List.length_cons]
      omega
    · split <;> simp

def keysL (l : List api_Pair) (x : List Int) : List Int := l.foldl (fun x p => insI x p.Key) x
theorem mem_keysL : ∀ {l : List api_Pair} {x : List Int} {j : Int}, j ∈ keysL l x ↔ j ∈ x ∨ ∃ p ∈ l, p.Key = j
  | [], x, j => by simp [keysL]
  | p :: l, x, j => by
    rw [show keysL (p :: l) x = keysL l (insI x p.Key) from rfl, mem_keysL, mem_insI]
    constructor
    · rintro ((h | h) | ⟨q, h1, h2⟩)
      · exact .inl h
      · exact .inr ⟨p, by simp, h.symm⟩
      · exact .inr ⟨q, List.mem_cons_of_mem _ h1, h2⟩
    · rintro (h | ⟨q, h1, h2⟩)
      · exact .inl (.inl h)
      · rcases List.mem_cons.1 h1 with rfl | h1
        · exact .inl (.inr h2.symm)
        · exact .inr ⟨q, h1, h2⟩
theorem keysL_up : ∀ {l : List api_Pair} {x : List Int}, x.Pairwise (· < ·) → (keysL l x).Pairwise (· < ·)
  | [], _, h => h
  | p :: l, x, h => keysL_up (l := l) (insI_up p.Key h)
theorem keysL_length : ∀ (l : List api_Pair) (x : List Int), (keysL l x).length ≤ x.length + l.length
  | [], _ => by simp [keysL]
  | p :: l, x => by
    rw [show keysL (p :: l) x = keysL l (insI x p.Key) from rfl]
    have := keysL_length l (insI x p.Key)
    have := insI_length x p.Key
    simp only [List.length_cons]
    omega
theorem keysL_snoc (l : List api_Pair) (p : api_Pair) (x : List Int) : keysL (l ++ [p]) x = insI (keysL l x) p.Key := by simp [keysL, List.foldl_append]

/-! ### What becomes of each key -/
def stepK (l : List api_Pair) (m : api_Mut) (on : List api_Span) (k : Int) : Option (Option Int) := if touB m k && hasB on k then cellO m k (look l k) else some (look l k)
def resL (f : Int → Option (Option Int)) (ks : List Int) : List api_Pair := ks.filterMap fun k => ((f k).getD none).map fun v => (⟨k, v⟩ : api_Pair)
theorem resL_keys {f : Int → Option (Option Int)} {ks : List Int} : ∀ x ∈ resL f ks, x.Key ∈ ks := by
  intro x hx
  obtain ⟨k, h1, h2⟩ := List.mem_filterMap.1 hx
  obtain ⟨v, _, rfl⟩ := Option.map_eq_some_iff.1 h2
  exact h1
theorem resL_up {f : Int → Option (Option Int)} : ∀ {ks : List Int}, ks.Pairwise (· < ·) → Up (resL f ks)
  | [], _ => by simp [resL, Up]
  | k :: ks, h => by
    have h1 := (List.pairwise_cons.1 h).1
    have h2 := resL_up (f := f) (List.pairwise_cons.1 h).2
    unfold resL
    rw [List.filterMap_cons]
    cases hf : (f k).getD none with
    | none => exact h2
    | some v => exact List.pairwise_cons.2 ⟨fun y hy => h1 _ (resL_keys y hy), h2⟩
theorem look_resL {f : Int → Option (Option Int)} {j : Int} : ∀ {ks : List Int}, ks.Pairwise (· < ·) → look (resL f ks) j = if j ∈ ks then (f j).getD none else none
  | [], _ => by simp [resL, look]
  | k :: ks, h => by
    have h1 := (List.pairwise_cons.1 h).1
    have ih := look_resL (f := f) (j := j) (List.pairwise_cons.1 h).2
    unfold resL at ih ⊢
    rw [List.filterMap_cons]
    by_cases hj : j = k
    · subst hj
      rw [if_neg (fun e => by have := h1 j e; omega)] at ih
      cases hf : (f j).getD none with
      | none => simp [ih]
      | some v => simp [look]
    · have : (j ∈ k :: ks) ↔ j ∈ ks := by simp [hj]
      simp only [this]
      cases hf : (f k).getD none with
      | none => simpa using ih
      | some v => simp only [Option.map_some, look, if_neg (fun e : k = j => hj e.symm)]; exact ih

/-- What a mutation makes of a table, told key by key. -/
structure ApplyTo (l : List api_Pair) (m : api_Mut) (on : List api_Span) (r : List api_Pair × Bool) : Prop where
  done : r.2 = true → Up r.1 ∧ ∀ j, stepK l m on j = some (look r.1 j)
  fail : r.2 = false → r.1 = l ∧ ∃ k, stepK l m on k = none
theorem ApplyTo.unique {l : List api_Pair} {m : api_Mut} {on : List api_Span} {r s : List api_Pair × Bool} (h : ApplyTo l m on r) (h' : ApplyTo l m on s) : r = s := by
  obtain ⟨a, x⟩ := r
  obtain ⟨b, y⟩ := s
  cases x with
  | true =>
    obtain ⟨h1, h2⟩ := h.done rfl
    cases y with
    | true =>
      obtain ⟨h3, h4⟩ := h'.done rfl
      have : a = b := Up.unique h1 h3 fun k => by
        have := (h2 k).symm.trans (h4 k)
        injection this
      rw [this]
    | false =>
      obtain ⟨_, k, h4⟩ := h'.fail rfl
      rw [h2 k] at h4
      cases h4
  | false =>
    obtain ⟨h1, k, h2⟩ := h.fail rfl
    cases y with
    | true =>
      obtain ⟨h3, h4⟩ := h'.done rfl
      rw [h4 k] at h2
      cases h2
    | false =>
      obtain ⟨h3, _⟩ := h'.fail rfl
      simp only at h1 h3
      rw [h1, h3]

end Go.SyP
