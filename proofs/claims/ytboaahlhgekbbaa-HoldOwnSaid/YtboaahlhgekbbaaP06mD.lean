/- Tables: leaving out; which mutations may be. -/
import Derived.Test.YtboaahlhgekbbaaP06mC
set_option linter.unusedVariables false
set_option linter.unusedSimpArgs false
namespace Go.SyP
open Go Go.Sy Sets

/-! ### Sets of keys -/
def hasB (on : List api_Span) (k : Int) : Bool := (on.map pa).any fun x => decide (Ok x) && decide (x.1 ≤ k) && decide (k < x.2)
def SOk (on : List api_Span) : Prop := Canon (on.map pa) ∧ on.length ≤ 64
theorem hasB_iff {on : List api_Span} (h : SOk on) {k : Int} : hasB on k = true ↔ mem (on.map pa) k := by
  unfold hasB mem
  simp only [List.any_eq_true, Bool.and_eq_true, decide_eq_true_eq]
  constructor
  · rintro ⟨x, h1, ⟨h2, h3⟩, h4⟩
    exact ⟨x, h1, h3, h4⟩
  · rintro ⟨x, h1, h3, h4⟩
    exact ⟨x, h1, ⟨h.1.ok x h1, h3⟩, h4⟩

/-! ### Leaving out -/
theorem indexP (a : List api_Pair) (hn : a.length ≤ 9223372036854775807) (q : api_Pair → Bool) : ∃ r, slices_IndexFunc_api_Pair a (fun z => some (q z)) = some r ∧
    ((r = -1 ∧ ∀ x ∈ a, q x = false) ∨ ∃ i : Nat, r = i ∧ i < a.length ∧ q (a.getD i api_Pair.z) = true ∧ ∀ x ∈ a.take i, q x = false) := by
  unfold slices_IndexFunc_api_Pair
  refine for_post (n := a.length) (fun i (_ : Unit) => slices_IndexFunc_api_Pair.S.l1 (i : Int)) (fun i _ => ∀ x ∈ a.take i, q x = false) _ ?_ ?_ 0 () (Nat.zero_le _) (by simp)
  · intro _ h
    rw [take_all (Nat.le_refl _)] at h
    exact ⟨-1, by simp [slices_IndexFunc_api_Pair.step, slices_IndexFunc_api_Pair.l1], .inl ⟨rfl, h⟩⟩
  · intro i _ hi h
    have hstep : (0 : Int) ≤ (i : Int) ∧ (i : Int) < (a.length : Int) := by omega
    simp only [slices_IndexFunc_api_Pair.step, slices_IndexFunc_api_Pair.l1, hstep.2, if_true, hstep, and_self, Option.bind_some, wr1 hi hn]
    have hx := take_atI (l := a) (z := api_Pair.z) hi
    have hg : a.getD (i : Int).toNat api_Pair.z = a.getD i api_Pair.z := rfl
    rw [hg] at hx ⊢
    cases hq : q (a.getD i api_Pair.z) with
    | true =>
      right
      exact ⟨i, by simp, .inr ⟨i, rfl, hi, hq, h⟩⟩
    | false =>
      left
      refine ⟨(), by simp, fun x hxm => ?_⟩
      rw [hx] at hxm
      rcases List.mem_append.1 hxm with hm | hm
      · exact h x hm
      · simp at hm; rw [hm, ← hq]; simp [List.getD_eq_getElem?_getD]
theorem containsP (a : List api_Pair) (hn : a.length ≤ 9223372036854775807) (q : api_Pair → Bool) : slices_ContainsFunc_api_Pair a (fun z => some (q z)) = some (a.any q) := by
  unfold slices_ContainsFunc_api_Pair
  obtain ⟨r, h1, h2⟩ := indexP a hn q
  rw [h1, Option.bind_some]
  congr 1
  rcases h2 with ⟨rfl, h⟩ | ⟨i, rfl, hi, hq, _⟩
  · rw [Bool.eq_iff_iff]
    simp only [decide_eq_true_eq, List.any_eq_true]
    constructor
    · intro h; omega
    · rintro ⟨x, hx, hq⟩
      rw [h x hx] at hq
      cases hq
  · rw [decide_eq_true (by omega)]
    symm
    rw [List.any_eq_true]
    refine ⟨_, ?_, hq⟩
    simp [List.getD_eq_getElem?_getD, hi]

/-! ### Which mutations may be -/
def prs (l : List api_Pair) : Bool := l.all fun x => decide (okP x)
theorem prs_iff {l : List api_Pair} : prs l = true ↔ ∀ x ∈ l, okP x := by simp [prs]
def prsN (l : List api_Pair) (lo hi : Int) : Bool := (decide (lo ≤ (l.length : Int)) && decide ((l.length : Int) ≤ hi)) && prs l
def valB (v : Int) : Bool := decide (-1099511627776 ≤ v) && decide (v ≤ 1099511627776)
theorem mut_value_eq (v : Int) : mut_value v = valB v := by
  unfold mut_value mut_value.j1 valB
  by_cases h : v ≥ -1099511627776
  · rw [if_pos h, decide_eq_true (show (-1099511627776 : Int) ≤ v by omega)]; rfl
  · rw [if_neg h, decide_eq_false (show ¬ (-1099511627776 : Int) ≤ v by omega)]; rfl
theorem mut_pair_eq (x : api_Pair) : mut_pair x = decide (okP x) := by
  unfold mut_pair mut_pair.j1
  rw [mut_value_eq]
  unfold valB okP
  by_cases h1 : x.Key ≥ 0 <;> by_cases h2 : x.Key < 4096 <;> simp [h1, h2]
theorem mut_pairs_eq (m : api_Mut) (lo hi : Int) (hn : m.Pairs.length ≤ 5000) : mut_pairs m lo hi = some (prsN m.Pairs lo hi) := by
  unfold mut_pairs mut_pairs.j1 prsN
  rw [containsP _ (by omega)]
  have e : (!m.Pairs.any fun z0 => mut_pairs_1 z0) = prs m.Pairs := by
    unfold prs mut_pairs_1
    rw [List.not_any_eq_all_not]
    congr 1
    funext x
    rw [mut_pair_eq]
    simp
  rw [Option.bind_some, e]
  by_cases h1 : (m.Pairs.length : Int) ≥ lo
  · by_cases h2 : (m.Pairs.length : Int) ≤ hi
    · rw [if_pos h1, if_pos h2, decide_eq_true (show lo ≤ (m.Pairs.length : Int) from h1), decide_eq_true h2]; simp
    · rw [if_pos h1, if_neg h2, decide_eq_false h2]; simp
  · rw [if_neg h1, decide_eq_false (show ¬ lo ≤ (m.Pairs.length : Int) from h1)]; simp

instance (l : List api_Pair) : Decidable (Up l) := by unfold Up; exact inferInstance
theorem up_snoc {l : List api_Pair} {x : api_Pair} : Up (l ++ [x]) ↔ Up l ∧ ∀ y ∈ l, y.Key < x.Key := by
  unfold Up
  rw [List.pairwise_append]
  simp
theorem up_last {l : List api_Pair} {x : api_Pair} (h : Up (l ++ [x])) : ∀ y ∈ l ++ [x], y.Key ≤ x.Key := by
  intro y hy
  rcases List.mem_append.1 hy with hy | hy
  · exact Int.le_of_lt ((up_snoc.1 h).2 y hy)
  · simp at hy; subst hy; exact Int.le_refl _
theorem up_take {l m : List api_Pair} (h : Up (l ++ m)) : Up l := (List.pairwise_append.1 h).1
/-- One more pair, by the one ahead of it. -/
theorem up_more {l : List api_Pair} {i : Nat} (h0 : 0 < i) (hi : i < l.length) (h : Up (l.take i)) : Up (l.take (i + 1)) ↔ (l.getD (i - 1) api_Pair.z).Key < (l.getD i api_Pair.z).Key := by
  have hx := take_at (l := l) (z := api_Pair.z) hi
  have hp := take_at (l := l) (z := api_Pair.z) (i := i - 1) (by omega)
  rw [show i - 1 + 1 = i by omega] at hp
  rw [hx, up_snoc]
  constructor
  · rintro ⟨_, h2⟩
    exact h2 _ (by rw [hp]; simp)
  · intro h2
    refine ⟨h, fun y hy => ?_⟩
    rw [hp] at h hy
    have := up_last h y hy
    omega

theorem rising_eq (l : List api_Pair) (hn : l.length ≤ 5000) : mut_rising l = some (decide (Up l)) := by
  unfold mut_rising
  rcases Nat.eq_zero_or_pos l.length with h0 | h0
  · rw [List.length_eq_zero_iff] at h0
    subst h0
    rw [loop_eq]
    rfl
  · obtain ⟨r, e1, e2⟩ : ∃ r, goLoop (mut_rising.step l) (.l1 ((1 : Nat) : Int)) = some r ∧ r = decide (Up l) := by
      refine for_post (n := l.length) (fun i (_ : Unit) => mut_rising.S.l1 (i : Int)) (fun i _ => 0 < i ∧ Up (l.take i)) _ ?_ ?_ 1 () (by omega) ⟨by omega, by
        rw [take_at (z := api_Pair.z) h0]
        simp [Up]⟩
      · rintro _ ⟨_, h⟩
        rw [take_all (Nat.le_refl _)] at h
        exact ⟨true, by simp [mut_rising.step, mut_rising.l1], by simp [h]⟩
      · rintro i _ hi ⟨hp, h⟩
        have hw : IntKind.wrap .i64 ((i : Int) - 1) = ((i - 1 : Nat) : Int) := by rw [wr (by omega)]; omega
        simp only [mut_rising.step, mut_rising.l1, hw]
        rw [if_pos (by omega), if_pos (by omega), if_pos (by omega), wr1 hi (by omega : l.length ≤ 9223372036854775807)]
        have hm := up_more hp hi h
        rw [show ((i - 1 : Nat) : Int).toNat = i - 1 from rfl, show ((i : Nat) : Int).toNat = i from rfl]
        by_cases hc : (l.getD (i - 1) api_Pair.z).Key ≥ (l.getD i api_Pair.z).Key
        · right
          refine ⟨false, by rw [if_pos hc], ?_⟩
          symm
          rw [decide_eq_false_iff_not]
          intro hu
          rw [← List.take_append_drop (i + 1) l] at hu
          have := hm.1 (up_take hu)
          omega
        · left
          exact ⟨(), by rw [if_neg hc], by omega, hm.2 (by omega)⟩
    rw [show ((1 : Nat) : Int) = 1 from rfl] at e1
    rw [e1, e2]

def kindB (m : api_Mut) : Bool :=
  if m.Kind = 2 then (decide (m.Pairs.length = 0) && decide (m.Old = 0)) && decide (Ok (pa m.Over))
  else (decide (m.Over.Lo = 0) && decide (m.Over.Hi = 0)) &&
    (if m.Kind = 4 then prsN m.Pairs 1 1 && (valB m.Old || decide (m.Old = 1099511627777))
     else decide (m.Old = 0) &&
      (if m.Kind = 1 then prsN m.Pairs 1 8 && decide (Up m.Pairs)
       else if m.Kind = 3 then prsN m.Pairs 1 1
       else if m.Kind = 5 then prsN m.Pairs 2 2 && (decide ((m.Pairs.getD 0 api_Pair.z).Key ≠ (m.Pairs.getD 1 api_Pair.z).Key) && (decide ((m.Pairs.getD 0 api_Pair.z).Val = (m.Pairs.getD 1 api_Pair.z).Val) && decide ((m.Pairs.getD 0 api_Pair.z).Val ≥ 0)))
       else false))
def mOk (m : api_Mut) : Bool := (decide (1 ≤ m.Client ∧ m.Client ≤ 1048576) && decide (1 ≤ m.Seq ∧ m.Seq ≤ 1073741824)) && kindB m

theorem prsN_len {l : List api_Pair} {lo hi : Int} (h : prsN l lo hi = true) : lo ≤ (l.length : Int) ∧ (l.length : Int) ≤ hi := by
  unfold prsN at h
  simp only [Bool.and_eq_true, decide_eq_true_eq] at h
  exact h.1

theorem kind_j1 (m : api_Mut) (hn : m.Pairs.length ≤ 5000) (b : Bool) : mut_kind.j1 m b = some (!b &&
    (if m.Kind = 1 then prsN m.Pairs 1 8 && decide (Up m.Pairs)
     else if m.Kind = 2 then decide (m.Pairs.length = 0) && decide (Ok (pa m.Over))
     else if m.Kind = 3 then prsN m.Pairs 1 1
     else if m.Kind = 4 then prsN m.Pairs 1 1 && (valB m.Old || decide (m.Old = 1099511627777))
     else if m.Kind = 5 then prsN m.Pairs 2 2 && (decide ((m.Pairs.getD 0 api_Pair.z).Key ≠ (m.Pairs.getD 1 api_Pair.z).Key) && (decide ((m.Pairs.getD 0 api_Pair.z).Val = (m.Pairs.getD 1 api_Pair.z).Val) && decide ((m.Pairs.getD 0 api_Pair.z).Val ≥ 0)))
     else false)) := by
  unfold mut_kind.j1
  cases b with
  | true => simp
  | false =>
    rw [if_neg (by decide)]
    have e1 : ∀ lo hi, mut_pairs (⟨m.Client, m.Seq, m.Kind, m.Pairs, (⟨m.Over.Lo, m.Over.Hi⟩ : api_Span), m.Old⟩ : api_Mut) lo hi = some (prsN m.Pairs lo hi) := fun lo hi => mut_pairs_eq m lo hi hn
    simp only [e1, Option.bind_some, rising_eq _ hn, span_One_eq, mut_value_eq, mut_kind.j2, mut_kind.j3, mut_kind.j4, mut_kind.j5, Bool.not_false, Bool.true_and]
    by_cases k1 : m.Kind = 1
    · rw [if_pos k1, if_pos k1]
      cases prsN m.Pairs 1 8 <;> simp
    · by_cases k2 : m.Kind = 2
      · rw [if_neg k1, if_pos k2, if_neg k1, if_pos k2]
        by_cases h : m.Pairs.length = 0
        · rw [if_pos (by omega), decide_eq_true h]; simp
        · rw [if_neg (by omega), decide_eq_false h]; simp
      · by_cases k3 : m.Kind = 3
        · simp [k3]
        · by_cases k4 : m.Kind = 4
          · simp only [k4, if_neg (show ¬ (4 : Int) = 1 by decide), if_neg (show ¬ (4 : Int) = 2 by decide), if_neg (show ¬ (4 : Int) = 3 by decide), if_true]
            cases prsN m.Pairs 1 1 <;> cases valB m.Old <;> first | rfl | simp
          · by_cases k5 : m.Kind = 5
            · simp only [k5, if_neg (show ¬ (5 : Int) = 1 by decide), if_neg (show ¬ (5 : Int) = 2 by decide), if_neg (show ¬ (5 : Int) = 3 by decide), if_neg (show ¬ (5 : Int) = 4 by decide), if_true]
              cases hp : prsN m.Pairs 2 2 with
              | false => simp
              | true =>
                have := prsN_len hp
                rw [if_pos rfl, if_pos (by omega), if_pos (by omega)]
                generalize m.Pairs.getD 0 api_Pair.z = P0
                generalize m.Pairs.getD 1 api_Pair.z = P1
                by_cases h1 : P0.Key = P1.Key
                · rw [if_pos h1]; simp [h1]
                · rw [if_neg h1]
                  by_cases h2 : P0.Val = P1.Val
                  · rw [if_pos h2]; simp [h1, h2]
                  · rw [if_neg h2]; simp [h2]
            · simp only [if_neg k1, if_neg k2, if_neg k3, if_neg k4, if_neg k5]

theorem mut_kind_eq (m : api_Mut) (hn : m.Pairs.length ≤ 5000) : mut_kind m = some (kindB m) := by
  unfold mut_kind kindB
  simp only [kind_j1 m hn]
  by_cases k2 : m.Kind = 2
  · have k4 : ¬ m.Kind = 4 := by omega
    have k1 : ¬ m.Kind = 1 := by omega
    simp only [if_pos k2, if_neg k4, if_neg k1]
    by_cases h : m.Old = 0 <;> simp [h]
  · simp only [if_neg k2]
    by_cases h1 : m.Over.Lo = 0
    · by_cases h2 : m.Over.Hi = 0
      · by_cases k4 : m.Kind = 4
        · have k1 : ¬ m.Kind = 1 := by omega
          have k3 : ¬ m.Kind = 3 := by omega
          simp [h1, h2, if_pos k4, if_neg k1, if_neg k3]
        · simp only [if_neg k4, if_pos h1, if_pos h2]
          by_cases h : m.Old = 0 <;> simp [h1, h2, h]
      · simp [h1, h2]
    · by_cases h2 : m.Over.Hi = 0
      · simp [h1, h2]
      · simp [h1, h2]

theorem mut_Check_eq (m : api_Mut) (hn : m.Pairs.length ≤ 5000) : mut_Check m = some (mOk m) := by
  unfold mut_Check mut_Check.j1 mOk
  have e1 : mut_kind (⟨m.Client, m.Seq, m.Kind, m.Pairs, (⟨m.Over.Lo, m.Over.Hi⟩ : api_Span), m.Old⟩ : api_Mut) = some (kindB m) := mut_kind_eq m hn
  simp only [e1, Option.bind_some]
  by_cases h1 : m.Client ≥ 1
  · by_cases h2 : m.Client ≤ 1048576
    · by_cases h3 : m.Seq ≥ 1
      · by_cases h4 : m.Seq ≤ 1073741824
        · rw [if_pos h1, if_pos h2, if_pos h3, if_pos h4, decide_eq_true (show 1 ≤ m.Client ∧ m.Client ≤ 1048576 from ⟨h1, h2⟩), decide_eq_true (show 1 ≤ m.Seq ∧ m.Seq ≤ 1073741824 from ⟨h3, h4⟩)]
          simp
        · rw [if_pos h1, if_pos h2, if_pos h3, if_neg h4, decide_eq_false (p := 1 ≤ m.Seq ∧ m.Seq ≤ 1073741824) (by omega)]
          simp
      · rw [if_pos h1, if_pos h2, if_neg h3, decide_eq_false (p := 1 ≤ m.Seq ∧ m.Seq ≤ 1073741824) (by omega)]
        simp
    · rw [if_pos h1, if_neg h2, decide_eq_false (p := 1 ≤ m.Client ∧ m.Client ≤ 1048576) (by omega)]
      simp
  · rw [if_neg h1, decide_eq_false (p := 1 ≤ m.Client ∧ m.Client ≤ 1048576) (by omega)]
    simp
end Go.SyP
