/- How a mutation is read. -/
import Derived.Test.YtbhipajnkkjceaaP04S
import Derived.Test.YtbhipajnkkjceaaP04T
set_option linter.unusedVariables false
set_option linter.unusedSimpArgs false
namespace Go.SyP
open Go Go.Sy Sets

def rdP : Nat → Int → List api_Pair → Rd → List api_Pair × Rd
  | 0, _, acc, s => (acc, s)
  | f + 1, c, acc, s => if 0 < c ∧ s.2 = 0 then rdP f (c - 1) (acc ++ [⟨(rdN s).1, (rdW (rdN s).2).1⟩]) (rdW (rdN s).2).2 else (acc, s)
def endM (m : api_Mut) (s : Rd) : api_Mut × Int := if rdEnd s = 0 then (if mOk m = true then (m, 0) else (⟨0, 0, 0, [], ⟨0, 0⟩, 0⟩, 3)) else (⟨0, 0, 0, [], ⟨0, 0⟩, 0⟩, rdEnd s)
def finM (c q k : Int) (x : List api_Pair × Rd) : api_Mut × Int :=
  if k = 2 then endM ⟨c, q, k, x.1, ⟨(rdN x.2).1, (rdN (rdN x.2).2).1⟩, 0⟩ (rdN (rdN x.2).2).2
  else if k = 4 then endM ⟨c, q, k, x.1, ⟨0, 0⟩, (rdW x.2).1⟩ (rdW x.2).2
  else endM ⟨c, q, k, x.1, ⟨0, 0⟩, 0⟩ x.2
def readS (l : List UInt8) : api_Mut × Int :=
  finM (rdN (l, 0)).1 (rdN (rdN (l, 0)).2).1 (rdN (rdN (rdN (l, 0)).2).2).1
    (rdP (l.length + 2) (rdN (rdN (rdN (rdN (l, 0)).2).2).2).1 [] (rdN (rdN (rdN (rdN (l, 0)).2).2).2).2)

theorem rdW_len (s : Rd) : (rdW s).2.1.length ≤ s.1.length := rdN_len s
theorem next_fuel {s : Rd} {f : Nat} (h0 : s.2 = 0) (hf : s.1.length + 2 ≤ f + 1) : ((rdW (rdN s).2).2.2 = 0 → (rdW (rdN s).2).2.1.length + 2 ≤ f) ∧ 1 ≤ f := by
  refine ⟨fun h => ?_, by omega⟩
  have h1 := (num_rdN (s := (rdN s).2) h).1
  have h2 := rdN_less s h1
  have h3 := rdN_less (rdN s).2 h
  have h4 : (rdW (rdN s).2).2.1.length < (rdN s).2.1.length := h3
  omega

theorem endM_vint (m : api_Mut) (s : Rd) (hn : m.Pairs.length ≤ 5000) (v2 v3 v4 : Int × vint_Reader) (h2 : v2.1 = m.Client) (h3 : v3.1 = m.Seq) (h4 : v4.1 = m.Kind) :
    mut_Read.j2 v2 v3 v4 m.Pairs (bs s.1) s.2 m.Over.Lo m.Over.Hi m.Old = some (.inr (endM m s)) := by
  unfold mut_Read.j2 endM
  have e : vint_Reader_End ⟨bs s.1, s.2⟩ = rdEnd s := rdEnd_vint s
  rw [e]
  by_cases h : rdEnd s = 0
  · have hm : (⟨v2.1, v3.1, v4.1, m.Pairs, (⟨m.Over.Lo, m.Over.Hi⟩ : api_Span), m.Old⟩ : api_Mut) = m := by rw [h2, h3, h4]
    rw [if_pos h, if_pos h, hm, mut_Check_eq m hn, Option.bind_some]
    by_cases hk : mOk m = true
    · rw [if_pos hk, if_pos hk]
    · rw [if_neg hk, if_neg hk]
  · rw [if_neg h, if_neg h]
theorem finM_vint (x : List api_Pair × Rd) (hn : x.1.length ≤ 5000) (hl : x.2.1.length ≤ 6000) (v2 v3 v4 : Int × vint_Reader) (i : Int) :
    mut_Read.j1 v2 v3 v4 i (bs x.2.1) x.2.2 x.1 false = some (.inr (finM v2.1 v3.1 v4.1 x)) := by
  unfold mut_Read.j1 finM
  rw [if_neg (by decide)]
  have e : (⟨bs x.2.1, x.2.2⟩ : vint_Reader) = toV x.2 := rfl
  have hl1 := rdN_len x.2
  by_cases k2 : v4.1 = 2
  · rw [if_pos k2, if_pos k2, e, rdN_vint x.2 (by omega), Option.bind_some]
    simp only
    rw [rdN_vint (rdN x.2).2 (by omega), Option.bind_some]
    exact endM_vint ⟨v2.1, v3.1, v4.1, x.1, ⟨(rdN x.2).1, (rdN (rdN x.2).2).1⟩, 0⟩ _ hn v2 v3 v4 rfl rfl rfl
  · rw [if_neg k2, if_neg k2]
    by_cases k4 : v4.1 = 4
    · rw [if_pos k4, if_pos k4, e, rdW_vint x.2 (by omega), Option.bind_some]
      exact endM_vint ⟨v2.1, v3.1, v4.1, x.1, ⟨0, 0⟩, (rdW x.2).1⟩ _ hn v2 v3 v4 rfl rfl rfl
    · rw [if_neg k4, if_neg k4]
      exact endM_vint ⟨v2.1, v3.1, v4.1, x.1, ⟨0, 0⟩, 0⟩ x.2 hn v2 v3 v4 rfl rfl rfl

theorem pairs_vint (v2 v3 v4 v5 : Int × vint_Reader) (h5 : v5.1 < 9223372036854775808) : ∀ (f i : Nat) (acc : List api_Pair) (s : Rd), (s.2 = 0 → s.1.length + 2 ≤ f) → 1 ≤ f → (i : Int) ≤ max v5.1 0 → (s.2 = 0 → 2 * acc.length + s.1.length ≤ 5000) → 2 * acc.length + s.1.length ≤ 5002 →
    (s.2 = 0 ∨ s.1 = []) → goLoop (mut_Read.step v2 v3 v4 v5) (.l1 (i : Int) (bs s.1) s.2 acc) = some (finM v2.1 v3.1 v4.1 (rdP f (v5.1 - i) acc s))
  | 0, _, _, _, _, h, _, _, _, _ => by omega
  | f + 1, i, acc, s, hf, _, hi, hl0, hl, he => by
    rw [loop_eq]
    simp only [mut_Read.step, mut_Read.l1, vint_Reader_Err]
    have out : stk (mut_Read.j1 v2 v3 v4 (i : Int) (bs s.1) s.2 acc false) (goLoop (mut_Read.step v2 v3 v4 v5)) = some (finM v2.1 v3.1 v4.1 (acc, s)) := by
      rw [finM_vint (acc, s) (by simp only; omega) (by simp only; omega)]
      rfl
    rw [rdP]
    by_cases hc : (i : Int) < v5.1
    · rw [if_pos hc]
      by_cases h0 : s.2 = 0
      · rw [if_pos (show 0 < v5.1 - (i : Int) ∧ s.2 = 0 from ⟨by omega, h0⟩), show (s.2 == 0) = true by rw [h0]; rfl]
        have e : (⟨bs s.1, s.2⟩ : vint_Reader) = toV s := rfl
        have hl1 := rdN_len s
        have hl2 := rdW_len (rdN s).2
        have nf := next_fuel h0 (hf h0)
        unfold mut_Read.j1
        rw [if_pos rfl, e, rdN_vint s (by omega), Option.bind_some]
        simp only
        rw [rdW_vint (rdN s).2 (by omega), Option.bind_some, if_pos (by omega)]
        simp only [stk]
        rw [wr (by omega), show (i : Int) + 1 = ((i + 1 : Nat) : Int) by omega]
        have hless : (rdW (rdN s).2).2.2 = 0 → (rdW (rdN s).2).2.1.length + 2 ≤ s.1.length := fun h => by
          have h1 := (num_rdN (s := (rdN s).2) h).1
          have h2 := rdN_less s h1
          have h3 : (rdW (rdN s).2).2.1.length < (rdN s).2.1.length := rdN_less (rdN s).2 h
          omega
        have hnil : ∀ t : Rd, (rdN t).2.2 = 0 ∨ (rdN t).2.1 = [] ∨ (rdN t).2 = t := fun t => by
          unfold rdN
          by_cases h : t.2 = 0
          · rw [if_pos h]
            cases rdU 0 t.1 <;> simp
          · rw [if_neg h]; exact .inr (.inr rfl)
        have he' : (rdW (rdN s).2).2.2 = 0 ∨ (rdW (rdN s).2).2.1 = [] := by
          rcases hnil (rdN s).2 with h | h | h
          · exact .inl h
          · exact .inr h
          · show (rdN (rdN s).2).2.2 = 0 ∨ (rdN (rdN s).2).2.1 = []
            rw [h]
            rcases hnil s with h | h | h
            · exact .inl h
            · exact .inr h
            · rw [h]; exact he
        have ih := pairs_vint v2 v3 v4 v5 h5 f (i + 1) (acc ++ [⟨(rdN s).1, (rdW (rdN s).2).1⟩]) (rdW (rdN s).2).2 nf.1 nf.2 (by omega) (fun h => by
          rw [List.length_append, List.length_singleton]
          have := hless h
          have := hl0 h0
          omega) (by
          rw [List.length_append, List.length_singleton]
          have := hl0 h0
          rcases he' with h | h
          · have := hless h; omega
          · rw [h]
            simp only [List.length_nil]
            omega) he'
        rw [show v5.1 - (((i + 1 : Nat)) : Int) = v5.1 - (i : Int) - 1 by omega] at ih
        exact ih
      · rw [if_neg (fun h => h0 h.2), show (s.2 == 0) = false by rw [beq_eq_false_iff_ne]; exact h0]
        exact out
    · rw [if_neg hc, if_neg (fun h => hc (by omega))]
      exact out

theorem hnil (t : Rd) : (rdN t).2.2 = 0 ∨ (rdN t).2.1 = [] ∨ (rdN t).2 = t := by
  unfold rdN
  by_cases h : t.2 = 0
  · rw [if_pos h]
    cases rdU 0 t.1 <;> simp
  · rw [if_neg h]; exact .inr (.inr rfl)
theorem nil_next {t : Rd} (h : t.2 = 0 ∨ t.1 = []) : (rdN t).2.2 = 0 ∨ (rdN t).2.1 = [] := by
  rcases hnil t with h1 | h1 | h1
  · exact .inl h1
  · exact .inr h1
  · rw [h1]; exact h

theorem mut_Read_eq (l : List UInt8) (hn : l.length ≤ 5000) : mut_Read (bs l) = some (readS l) := by
  unfold mut_Read vint_From
  simp only [bnd]
  have e : (⟨bs l, 0⟩ : vint_Reader) = toV (l, 0) := rfl
  have l1 := rdN_len (l, 0)
  have l2 := rdN_len (rdN (l, 0)).2
  have l3 := rdN_len (rdN (rdN (l, 0)).2).2
  have l4 := rdN_len (rdN (rdN (rdN (l, 0)).2).2).2
  simp only at l1
  rw [e, rdN_vint (l, 0) (by simp only; omega), Option.bind_some]
  simp only
  rw [rdN_vint _ (by omega), Option.bind_some]
  simp only
  rw [rdN_vint _ (by omega), Option.bind_some]
  simp only
  rw [rdN_vint _ (by omega), Option.bind_some]
  have hb := rdN_bound (rdN (rdN (rdN (l, 0)).2).2).2
  have := pairs_vint ((rdN (l, 0)).1, toV (rdN (l, 0)).2) ((rdN (rdN (l, 0)).2).1, toV (rdN (rdN (l, 0)).2).2) ((rdN (rdN (rdN (l, 0)).2).2).1, toV (rdN (rdN (rdN (l, 0)).2).2).2) ((rdN (rdN (rdN (rdN (l, 0)).2).2).2).1, toV (rdN (rdN (rdN (rdN (l, 0)).2).2).2).2) hb.2
    (l.length + 2) 0 [] (rdN (rdN (rdN (rdN (l, 0)).2).2).2).2 (fun _ => by omega) (by omega) (by simp only; omega) (fun _ => by simp only [List.length_nil]; omega) (by simp only [List.length_nil]; omega)
    (nil_next (nil_next (nil_next (nil_next (.inl rfl)))))
  rw [show ((0 : Nat) : Int) = 0 from rfl] at this
  simp only [Int.sub_zero] at this
  exact this

/-! ### The reader of the document -/
theorem endM_ref (m : api_Mut) (s : Rd) (hn : m.Pairs.length ≤ 5000) (v1 v2 v3 : spliceref01_Reader × Int) (h2 : v1.2 = m.Client) (h3 : v2.2 = m.Seq) (h4 : v3.2 = m.Kind) :
    spliceref04_Read.j3 v1 v2 v3 (m.Pairs.map tr) m.Over.Lo m.Over.Hi m.Old (bs s.1) s.2 = some (.inr (trM (endM m s).1, (endM m s).2)) := by
  unfold spliceref04_Read.j3 endM
  have e : spliceref01_Reader_End ⟨bs s.1, s.2⟩ = rdEnd s := rdEnd_ref s
  simp only [e, bnd]
  by_cases h : rdEnd s = 0
  · have hm : (⟨v1.2, v2.2, v3.2, m.Pairs.map tr, (⟨m.Over.Lo, m.Over.Hi⟩ : spliceref03_Span), m.Old⟩ : spliceref04_Mut) = trM m := by rw [h2, h3, h4]; rfl
    rw [if_pos h, if_pos h, hm, ref_Check_eq m hn, Option.bind_some]
    by_cases hk : mOk m = true
    · rw [if_pos hk, if_pos hk]
    · rw [if_neg hk, if_neg hk]; rfl
  · rw [if_neg h, if_neg h]; rfl
theorem finM_ref (x : List api_Pair × Rd) (hn : x.1.length ≤ 5000) (hl : x.2.1.length ≤ 6000) (v1 v2 v3 : spliceref01_Reader × Int) (i : Int) :
    spliceref04_Read.j1 v1 v2 v3 i (x.1.map tr) (bs x.2.1) x.2.2 false = some (.inr (trM (finM v1.2 v2.2 v3.2 x).1, (finM v1.2 v2.2 v3.2 x).2)) := by
  unfold spliceref04_Read.j1 spliceref04_Read.j2 finM
  rw [if_neg (by decide)]
  have e : (⟨bs x.2.1, x.2.2⟩ : spliceref01_Reader) = toD x.2 := rfl
  have hl1 := rdN_len x.2
  by_cases k2 : v3.2 = 2
  · rw [if_pos k2, if_pos k2, e, rdN_ref x.2 (by omega), Option.bind_some]
    simp only
    rw [rdN_ref (rdN x.2).2 (by omega), Option.bind_some, if_neg (by omega)]
    exact endM_ref ⟨v1.2, v2.2, v3.2, x.1, ⟨(rdN x.2).1, (rdN (rdN x.2).2).1⟩, 0⟩ _ hn v1 v2 v3 rfl rfl rfl
  · rw [if_neg k2, if_neg k2]
    by_cases k4 : v3.2 = 4
    · rw [if_pos k4, if_pos k4, e, rdW_ref x.2 (by omega), Option.bind_some]
      exact endM_ref ⟨v1.2, v2.2, v3.2, x.1, ⟨0, 0⟩, (rdW x.2).1⟩ _ hn v1 v2 v3 rfl rfl rfl
    · rw [if_neg k4, if_neg k4]
      exact endM_ref ⟨v1.2, v2.2, v3.2, x.1, ⟨0, 0⟩, 0⟩ x.2 hn v1 v2 v3 rfl rfl rfl

theorem pairs_ref (v1 v2 v3 v4 : spliceref01_Reader × Int) (h5 : v4.2 < 9223372036854775808) : ∀ (f i : Nat) (acc : List api_Pair) (s : Rd), (s.2 = 0 → s.1.length + 2 ≤ f) → 1 ≤ f → (i : Int) ≤ max v4.2 0 → (s.2 = 0 → 2 * acc.length + s.1.length ≤ 5000) → 2 * acc.length + s.1.length ≤ 5002 →
    (s.2 = 0 ∨ s.1 = []) → goLoop (spliceref04_Read.step v1 v2 v3 v4) (.l1 (i : Int) (acc.map tr) (bs s.1) s.2) = some (trM (finM v1.2 v2.2 v3.2 (rdP f (v4.2 - i) acc s)).1, (finM v1.2 v2.2 v3.2 (rdP f (v4.2 - i) acc s)).2)
  | 0, _, _, _, _, h, _, _, _, _ => by omega
  | f + 1, i, acc, s, hf, _, hi, hl0, hl, he => by
    rw [loop_eq]
    simp only [spliceref04_Read.step, spliceref04_Read.l1]
    have out : stk (spliceref04_Read.j1 v1 v2 v3 (i : Int) (acc.map tr) (bs s.1) s.2 false) (goLoop (spliceref04_Read.step v1 v2 v3 v4)) = some (trM (finM v1.2 v2.2 v3.2 (acc, s)).1, (finM v1.2 v2.2 v3.2 (acc, s)).2) := by
      rw [finM_ref (acc, s) (by simp only; omega) (by simp only; omega)]
      rfl
    rw [rdP]
    by_cases hc : (i : Int) < v4.2
    · rw [if_pos hc]
      by_cases h0 : s.2 = 0
      · rw [if_pos (show 0 < v4.2 - (i : Int) ∧ s.2 = 0 from ⟨by omega, h0⟩), show (s.2 == 0) = true by rw [h0]; rfl]
        have e : (⟨bs s.1, s.2⟩ : spliceref01_Reader) = toD s := rfl
        have hl1 := rdN_len s
        have hl2 := rdW_len (rdN s).2
        have nf := next_fuel h0 (hf h0)
        unfold spliceref04_Read.j1
        rw [if_pos rfl, e, rdN_ref s (by omega), Option.bind_some]
        simp only
        rw [rdW_ref (rdN s).2 (by omega), Option.bind_some, if_pos (by rw [List.length_map]; omega)]
        simp only [stk]
        rw [wr (by omega), show (i : Int) + 1 = ((i + 1 : Nat) : Int) by omega]
        have hless : (rdW (rdN s).2).2.2 = 0 → (rdW (rdN s).2).2.1.length + 2 ≤ s.1.length := fun h => by
          have h1 := (num_rdN (s := (rdN s).2) h).1
          have h2 := rdN_less s h1
          have h3 : (rdW (rdN s).2).2.1.length < (rdN s).2.1.length := rdN_less (rdN s).2 h
          omega
        have he' : (rdW (rdN s).2).2.2 = 0 ∨ (rdW (rdN s).2).2.1 = [] := nil_next (nil_next he)
        have ih := pairs_ref v1 v2 v3 v4 h5 f (i + 1) (acc ++ [⟨(rdN s).1, (rdW (rdN s).2).1⟩]) (rdW (rdN s).2).2 nf.1 nf.2 (by omega) (fun h => by
          rw [List.length_append, List.length_singleton]
          have := hless h
          have := hl0 h0
          omega) (by
          rw [List.length_append, List.length_singleton]
          have := hl0 h0
          rcases he' with h | h
          · have := hless h; omega
          · rw [h]
            simp only [List.length_nil]
            omega) he'
        rw [show v4.2 - (((i + 1 : Nat)) : Int) = v4.2 - (i : Int) - 1 by omega] at ih
        rw [List.map_append] at ih
        exact ih
      · rw [if_neg (fun h => h0 h.2), show (s.2 == 0) = false by rw [beq_eq_false_iff_ne]; exact h0]
        exact out
    · rw [if_neg hc, if_neg (fun h => hc (by omega))]
      exact out
theorem ref_Read_eq (l : List UInt8) (hn : l.length ≤ 5000) : spliceref04_Read (bs l) = some (trM (readS l).1, (readS l).2) := by
  unfold spliceref04_Read
  have e : (⟨bs l, 0⟩ : spliceref01_Reader) = toD (l, 0) := rfl
  have l1 := rdN_len (l, 0)
  have l2 := rdN_len (rdN (l, 0)).2
  have l3 := rdN_len (rdN (rdN (l, 0)).2).2
  have l4 := rdN_len (rdN (rdN (rdN (l, 0)).2).2).2
  simp only at l1
  rw [e, rdN_ref (l, 0) (by simp only; omega), Option.bind_some]
  simp only
  rw [rdN_ref _ (by omega), Option.bind_some]
  simp only
  rw [rdN_ref _ (by omega), Option.bind_some]
  simp only
  rw [rdN_ref _ (by omega), Option.bind_some]
  have hb := rdN_bound (rdN (rdN (rdN (l, 0)).2).2).2
  have := pairs_ref (toD (rdN (l, 0)).2, (rdN (l, 0)).1) (toD (rdN (rdN (l, 0)).2).2, (rdN (rdN (l, 0)).2).1) (toD (rdN (rdN (rdN (l, 0)).2).2).2, (rdN (rdN (rdN (l, 0)).2).2).1) (toD (rdN (rdN (rdN (rdN (l, 0)).2).2).2).2, (rdN (rdN (rdN (rdN (l, 0)).2).2).2).1) hb.2
    (l.length + 2) 0 [] (rdN (rdN (rdN (rdN (l, 0)).2).2).2).2 (fun _ => by omega) (by omega) (by simp only; omega) (fun _ => by simp only [List.length_nil]; omega) (by simp only [List.length_nil]; omega)
    (nil_next (nil_next (nil_next (nil_next (.inl rfl)))))
  rw [show ((0 : Nat) : Int) = 0 from rfl] at this
  simp only [Int.sub_zero] at this
  exact this

/-! ### There and back -/
theorem rdP_pairs : ∀ (l : List api_Pair) (f : Nat) (acc : List api_Pair) (r : List UInt8), (∀ x ∈ l, okP x) → l.length < f → rdP f (l.length : Int) acc (l.flatMap pairT ++ r, 0) = (acc ++ l, (r, 0))
  | l, 0, acc, r, _, hf => by omega
  | [], f + 1, acc, r, _, _ => by simp [rdP]
  | p :: l, f + 1, acc, r, h, hf => by
    have hp := h p (List.mem_cons_self ..)
    have hk := hp.1
    have hk2 := hp.2.1
    have hv := hp.2.2
    rw [rdP, if_pos ⟨by rw [List.length_cons]; omega, rfl⟩, List.flatMap_cons, pairT, List.append_assoc, List.append_assoc, rdN_num hk (by omega)]
    simp only
    rw [rdW_whole (by omega)]
    simp only
    rw [List.length_cons] at hf ⊢
    rw [show ((l.length + 1 : Nat) : Int) - 1 = (l.length : Int) by omega, rdP_pairs l f _ r (fun x hx => h x (List.mem_cons_of_mem _ hx)) (by omega)]
    simp
theorem numT_pos {v : Int} (h : 0 ≤ v) : 1 ≤ (numT v).length := by
  unfold numT
  rw [if_neg (by omega), numU]
  split <;> simp
theorem pairsT_ge : ∀ (l : List api_Pair), (∀ p ∈ l, 0 ≤ p.Key) → l.length ≤ (l.flatMap pairT).length
  | [], _ => by simp
  | p :: l, h => by
    have := pairsT_ge l fun q hq => h q (List.mem_cons_of_mem _ hq)
    have := numT_pos (h p (List.mem_cons_self ..))
    simp only [List.flatMap_cons, List.length_append, List.length_cons, pairT]
    omega
theorem valB_iff {v : Int} : valB v = true ↔ -1099511627776 ≤ v ∧ v ≤ 1099511627776 := by simp [valB]
/-- What is not said of a mutation is nought. -/
theorem mOk_rest {m : api_Mut} (h : mOk m = true) : (m.Kind = 2 → m.Old = 0) ∧ (m.Kind ≠ 2 → m.Over = ⟨0, 0⟩) ∧ (m.Kind ≠ 4 → m.Old = 0) ∧ (m.Kind = 4 → -1099511627776 ≤ m.Old ∧ m.Old ≤ 1099511627777) := by
  unfold mOk at h
  simp only [Bool.and_eq_true, decide_eq_true_eq] at h
  have hk := h.2
  unfold kindB at hk
  by_cases k2 : m.Kind = 2
  · rw [if_pos k2] at hk
    simp only [Bool.and_eq_true, decide_eq_true_eq] at hk
    exact ⟨fun _ => hk.1.2, fun h => absurd k2 h, fun _ => hk.1.2, fun h => by omega⟩
  · rw [if_neg k2] at hk
    simp only [Bool.and_eq_true, decide_eq_true_eq] at hk
    have ho : m.Over = ⟨0, 0⟩ := by
      have h1 := hk.1.1
      have h2 := hk.1.2
      cases m with
      | mk c q k ps o old =>
        cases o
        simp only at h1 h2
        rw [h1, h2]
    refine ⟨fun h => absurd h k2, fun _ => ho, fun k4 => ?_, fun k4 => ?_⟩
    · have := hk.2
      rw [if_neg k4] at this
      simp only [Bool.and_eq_true, decide_eq_true_eq] at this
      exact this.1
    · have := hk.2
      rw [if_pos k4] at this
      simp only [Bool.and_eq_true, Bool.or_eq_true, decide_eq_true_eq, valB_iff] at this
      omega
theorem read_txt {m : api_Mut} (h : mOk m = true) : readS (txt m) = (m, 0) := by
  have hm := mutIs h
  have hn := mk_nums h
  have hk := hm.kind
  have hl := hm.len
  have hr := mOk_rest h
  unfold readS
  have e1 : rdN (txt m, 0) = (m.Client, (numT m.Seq ++ (numT m.Kind ++ (numT (m.Pairs.length : Int) ++ (m.Pairs.flatMap pairT ++ tailT m))), 0)) := by
    unfold txt headT
    rw [List.append_assoc, List.append_assoc, List.append_assoc, rdN_num (by omega) (by omega)]
  rw [e1]
  simp only
  rw [rdN_num (by omega) (by omega)]
  simp only
  rw [rdN_num (by omega) (by omega)]
  simp only
  rw [rdN_num (by omega) (by omega)]
  simp only
  have hlen : m.Pairs.length < (txt m).length + 2 := by
    have := pairsT_ge m.Pairs fun p hp => (hm.ok p hp).1
    unfold txt
    simp only [List.length_append]
    omega
  rw [rdP_pairs m.Pairs _ [] (tailT m) hm.ok hlen, List.nil_append]
  unfold finM tailT
  have fin : ∀ (M : api_Mut), M = m → endM M ([], 0) = (m, 0) := fun M hM => by
    subst hM
    unfold endM rdEnd
    simp [h]
  by_cases k2 : m.Kind = 2
  · have ho := hm.over k2
    unfold Ok pa at ho
    simp only at ho
    rw [if_pos k2, if_pos k2]
    simp only
    have e2 : rdN (numT m.Over.Lo ++ numT m.Over.Hi, 0) = (m.Over.Lo, (numT m.Over.Hi, 0)) := rdN_num (by omega) (by omega) _
    have e3 : rdN (numT m.Over.Hi, 0) = (m.Over.Hi, ([], 0)) := by
      have := rdN_num (v := m.Over.Hi) (by omega) (by omega) []
      rwa [List.append_nil] at this
    rw [e2]
    simp only
    rw [e3]
    refine fin _ ?_
    have := hr.1 k2
    cases m with
    | mk c q k ps o old =>
      simp only at this
      rw [this]
  · rw [if_neg k2, if_neg k2]
    have ho := hr.2.1 k2
    by_cases k4 : m.Kind = 4
    · rw [if_pos k4, if_pos k4]
      simp only
      have hb := hr.2.2.2 k4
      have e2 : rdW (wholeT m.Old, 0) = (m.Old, ([], 0)) := by
        have := rdW_whole (v := m.Old) (by omega) []
        rwa [List.append_nil] at this
      rw [e2]
      refine fin _ ?_
      cases m with
      | mk c q k ps o old =>
        simp only at ho
        rw [ho]
    · rw [if_neg k4, if_neg k4]
      refine fin _ ?_
      have := hr.2.2.1 k4
      cases m with
      | mk c q k ps o old =>
        simp only at ho this
        rw [ho, this]
theorem txt_inj {m n : api_Mut} (hm : mOk m = true) (hn : mOk n = true) (h : txt m = txt n) : m = n := by
  have h1 := read_txt hm
  have h2 := read_txt hn
  rw [h, h2] at h1
  injection h1 with h1
  exact h1.symm

theorem rdP_back : ∀ (f : Nat) (c : Int) (acc : List api_Pair) (s : Rd), (s.2 = 0 → s.1.length + 2 ≤ f) → 1 ≤ f → 0 ≤ c → (rdP f c acc s).2.2 = 0 → s.2 = 0 ∧ ∃ l : List api_Pair, (rdP f c acc s).1 = acc ++ l ∧ (l.length : Int) = c ∧ s.1 = l.flatMap pairT ++ (rdP f c acc s).2.1
  | 0, c, acc, s, _, h, _, _ => by omega
  | f + 1, c, acc, s, hf, _, hc, h => by
    rw [rdP] at h ⊢
    by_cases h1 : 0 < c ∧ s.2 = 0
    · rw [if_pos h1] at h ⊢
      have nf := next_fuel h1.2 (hf h1.2)
      obtain ⟨e0, l, e1, e2, e3⟩ := rdP_back f (c - 1) _ _ nf.1 nf.2 (by omega) h
      obtain ⟨g1, g2⟩ := whole_rdW e0
      obtain ⟨g3, g4⟩ := num_rdN g1
      refine ⟨h1.2, ⟨(rdN s).1, (rdW (rdN s).2).1⟩ :: l, by rw [e1]; simp, by rw [List.length_cons]; omega, ?_⟩
      rw [List.flatMap_cons, pairT, List.append_assoc, List.append_assoc, ← e3, ← g2, ← g4]
    · rw [if_neg h1] at h ⊢
      have : c = 0 := by
        rcases Classical.em (s.2 = 0) with h2 | h2
        · have : ¬ 0 < c := fun h3 => h1 ⟨h3, h2⟩
          omega
        · exact absurd h h2
      exact ⟨h, [], by simp, by simp [this], by simp⟩
theorem endM_ok {m : api_Mut} {s : Rd} (h : (endM m s).2 = 0) : endM m s = (m, 0) ∧ mOk m = true ∧ s = ([], 0) := by
  unfold endM at h ⊢
  by_cases h1 : rdEnd s = 0
  · rw [if_pos h1] at h ⊢
    by_cases h2 : mOk m = true
    · rw [if_pos h2]
      refine ⟨rfl, h2, ?_⟩
      obtain ⟨l, e⟩ := s
      unfold rdEnd at h1
      simp only at h1
      split at h1
      · rename_i h3
        split at h1
        · rename_i h4; rw [h3, h4]
        · omega
      · rename_i h3; exact absurd h1 h3
    · rw [if_neg h2] at h; simp at h
  · rw [if_neg h1] at h; exact absurd h h1
theorem txt_read {l : List UInt8} (h : (readS l).2 = 0) : mOk (readS l).1 = true ∧ txt (readS l).1 = l := by
  unfold readS at h ⊢
  have hb := rdN_bound (rdN (rdN (rdN (l, 0)).2).2).2
  have l1 := rdN_len (l, 0)
  have l2 := rdN_len (rdN (l, 0)).2
  have l3 := rdN_len (rdN (rdN (l, 0)).2).2
  have l4 := rdN_len (rdN (rdN (rdN (l, 0)).2).2).2
  simp only at l1
  have back := rdP_back (l.length + 2) (rdN (rdN (rdN (rdN (l, 0)).2).2).2).1 [] (rdN (rdN (rdN (rdN (l, 0)).2).2).2).2 (fun _ => by omega) (by omega) hb.1
  generalize hx : rdP (l.length + 2) (rdN (rdN (rdN (rdN (l, 0)).2).2).2).1 [] (rdN (rdN (rdN (rdN (l, 0)).2).2).2).2 = x at h back ⊢
  -- what comes of the tail
  have key : ∀ (m : api_Mut) (s : Rd), m.Client = (rdN (l, 0)).1 → m.Seq = (rdN (rdN (l, 0)).2).1 → m.Kind = (rdN (rdN (rdN (l, 0)).2).2).1 → m.Pairs = x.1 → (endM m s).2 = 0 → (s.2 = 0 → x.2.2 = 0 ∧ x.2.1 = tailT m ++ s.1) →
      mOk (endM m s).1 = true ∧ txt (endM m s).1 = l := by
    intro m s c1 c2 c3 c4 he ht
    obtain ⟨e1, e2, e3⟩ := endM_ok he
    rw [e1]
    refine ⟨e2, ?_⟩
    subst e3
    obtain ⟨t1, t2⟩ := ht rfl
    obtain ⟨b0, L, b1, b2, b3⟩ := back t1
    obtain ⟨n4, q4⟩ := num_rdN b0
    obtain ⟨n3, q3⟩ := num_rdN n4
    obtain ⟨n2, q2⟩ := num_rdN n3
    obtain ⟨n1, q1⟩ := num_rdN n2
    rw [List.nil_append] at b1
    simp only at q1
    rw [List.append_nil] at t2
    unfold txt headT
    rw [c1, c2, c3, c4, b1, b2, ← t2, List.append_assoc, List.append_assoc, List.append_assoc, ← b3, ← q4, ← q3, ← q2, ← q1]
  unfold finM at h ⊢
  by_cases k2 : (rdN (rdN (rdN (l, 0)).2).2).1 = 2
  · rw [if_pos k2] at h ⊢
    refine key _ _ rfl rfl rfl rfl h fun hs => ?_
    obtain ⟨n2, q2⟩ := num_rdN hs
    obtain ⟨n1, q1⟩ := num_rdN n2
    refine ⟨n1, ?_⟩
    unfold tailT
    simp only
    rw [if_pos k2, List.append_assoc, ← q2, ← q1]
  · rw [if_neg k2] at h ⊢
    by_cases k4 : (rdN (rdN (rdN (l, 0)).2).2).1 = 4
    · rw [if_pos k4] at h ⊢
      refine key _ _ rfl rfl rfl rfl h fun hs => ?_
      obtain ⟨n1, q1⟩ := whole_rdW hs
      refine ⟨n1, ?_⟩
      unfold tailT
      simp only
      rw [if_neg k2, if_pos k4, ← q1]
    · rw [if_neg k4] at h ⊢
      refine key _ _ rfl rfl rfl rfl h fun hs => ⟨hs, ?_⟩
      unfold tailT
      simp only
      rw [if_neg k2, if_neg k4, List.nil_append]
end Go.SyP
