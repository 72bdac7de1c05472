/- Pairs, written and read. -/
import Derived.Test.YtijabmambppfhaaP05bT
import Derived.Test.YtijabmambppfhaaP05bD
set_option linter.unusedVariables false
set_option linter.unusedSimpArgs false
namespace Go.SyP
open Go Go.Sy Sets

theorem getD_in5 {α : Type} {l : List α} {i : Nat} {z : α} (h : i < l.length) : l.getD i z ∈ l := by
  simp [List.getD_eq_getElem?_getD, h]

def pairT (p : api_Pair) : List UInt8 := numT p.Key ++ wholeT p.Val
theorem pairT_len {p : api_Pair} (h : p.Key < 9223372036854775808) : (pairT p).length ≤ 20 := by
  unfold pairT
  rw [List.length_append]
  have := numT_len h
  have := wholeT_len p.Val
  omega
theorem pairsT_len : ∀ (l : List api_Pair), (∀ p ∈ l, p.Key < 9223372036854775808) → (l.flatMap pairT).length ≤ 20 * l.length
  | [], _ => by simp
  | p :: l, h => by
    have := pairsT_len l fun q hq => h q (List.mem_cons_of_mem _ hq)
    have := pairT_len (h p (List.mem_cons_self ..))
    simp only [List.flatMap_cons, List.length_append, List.length_cons]
    omega
theorem okP_key {x : api_Pair} (h : okP x) : x.Key < 9223372036854775808 := by have := h.2.1; omega
theorem take_flat (l : List api_Pair) {i : Nat} (hi : i < l.length) : (l.take (i + 1)).flatMap pairT = (l.take i).flatMap pairT ++ pairT (l.getD (i : Int).toNat api_Pair.z) := by
  rw [take_atI (z := api_Pair.z) hi, List.flatMap_append]
  simp

def rdP : Nat → Int → List api_Pair → Rd → List api_Pair × Rd
  | 0, _, acc, s => (acc, s)
  | f + 1, c, acc, s => if 0 < c ∧ s.2 = 0 then rdP f (c - 1) (acc ++ [⟨(rdN s).1, (rdW (rdN s).2).1⟩]) (rdW (rdN s).2).2 else (acc, s)
theorem rdW_len (s : Rd) : (rdW s).2.1.length ≤ s.1.length := rdN_len s
theorem next_fuel {s : Rd} {f : Nat} (h0 : s.2 = 0) (hf : s.1.length + 2 ≤ f + 1) : ((rdW (rdN s).2).2.2 = 0 → (rdW (rdN s).2).2.1.length + 2 ≤ f) ∧ 1 ≤ f := by
  refine ⟨fun h => ?_, by omega⟩
  have h1 := (num_rdN (s := (rdN s).2) h).1
  have h2 := rdN_less s h1
  have h3 := rdN_less (rdN s).2 h
  have h4 : (rdW (rdN s).2).2.1.length < (rdN s).2.1.length := h3
  omega

theorem hnil (t : Rd) : (rdN t).2.2 = 0 ∨ (rdN t).2.1 = [] ∨ (rdN t).2 = t := by
  unfold rdN
  by_cases h : t.2 = 0
  · rw [if_pos h]
    cases rdU 0 t.1 <;> simp
  · rw [if_neg h]; exact .inr (.inr rfl)
theorem nil_next {t : Rd} (h : t.2 = 0 ∨ t.1 = []) : (rdN t).2.2 = 0 ∨ (rdN t).2.1 = [] := by
  rcases hnil t with h1 | h1 | h1
  · exact .inl h1
  · exact .inr h1
  · rw [h1]; exact h

theorem rdP_pairs : ∀ (l : List api_Pair) (f : Nat) (acc : List api_Pair) (r : List UInt8), (∀ x ∈ l, okP x) → l.length < f → rdP f (l.length : Int) acc (l.flatMap pairT ++ r, 0) = (acc ++ l, (r, 0))
  | l, 0, acc, r, _, hf => by omega
  | [], f + 1, acc, r, _, _ => by simp [rdP]
  | p :: l, f + 1, acc, r, h, hf => by
    have hp := h p (List.mem_cons_self ..)
    have hk := hp.1
    have hk2 := hp.2.1
    have hv := hp.2.2
    rw [rdP, if_pos ⟨by rw [List.length_cons]; omega, rfl⟩, List.flatMap_cons, pairT, List.append_assoc, List.append_assoc, rdN_num hk (by omega)]
    simp only
    rw [rdW_whole (by omega)]
    simp only
    rw [List.length_cons] at hf ⊢
    rw [show ((l.length + 1 : Nat) : Int) - 1 = (l.length : Int) by omega, rdP_pairs l f _ r (fun x hx => h x (List.mem_cons_of_mem _ hx)) (by omega)]
    simp
theorem numT_pos {v : Int} (h : 0 ≤ v) : 1 ≤ (numT v).length := by
  unfold numT
  rw [if_neg (by omega), numU]
  split <;> simp
theorem pairsT_ge : ∀ (l : List api_Pair), (∀ p ∈ l, 0 ≤ p.Key) → l.length ≤ (l.flatMap pairT).length
  | [], _ => by simp
  | p :: l, h => by
    have := pairsT_ge l fun q hq => h q (List.mem_cons_of_mem _ hq)
    have := numT_pos (h p (List.mem_cons_self ..))
    simp only [List.flatMap_cons, List.length_append, List.length_cons, pairT]
    omega
theorem rdP_back : ∀ (f : Nat) (c : Int) (acc : List api_Pair) (s : Rd), (s.2 = 0 → s.1.length + 2 ≤ f) → 1 ≤ f → 0 ≤ c → (rdP f c acc s).2.2 = 0 → s.2 = 0 ∧ ∃ l : List api_Pair, (rdP f c acc s).1 = acc ++ l ∧ (l.length : Int) = c ∧ s.1 = l.flatMap pairT ++ (rdP f c acc s).2.1
  | 0, c, acc, s, _, h, _, _ => by omega
  | f + 1, c, acc, s, hf, _, hc, h => by
    rw [rdP] at h ⊢
    by_cases h1 : 0 < c ∧ s.2 = 0
    · rw [if_pos h1] at h ⊢
      have nf := next_fuel h1.2 (hf h1.2)
      obtain ⟨e0, l, e1, e2, e3⟩ := rdP_back f (c - 1) _ _ nf.1 nf.2 (by omega) h
      obtain ⟨g1, g2⟩ := whole_rdW e0
      obtain ⟨g3, g4⟩ := num_rdN g1
      refine ⟨h1.2, ⟨(rdN s).1, (rdW (rdN s).2).1⟩ :: l, by rw [e1]; simp, by rw [List.length_cons]; omega, ?_⟩
      rw [List.flatMap_cons, pairT, List.append_assoc, List.append_assoc, ← e3, ← g2, ← g4]
    · rw [if_neg h1] at h ⊢
      have : c = 0 := by
        rcases Classical.em (s.2 = 0) with h2 | h2
        · have : ¬ 0 < c := fun h3 => h1 ⟨h3, h2⟩
          omega
        · exact absurd h h2
      exact ⟨h, [], by simp, by simp [this], by simp⟩
end Go.SyP
