/- Tables: what the document makes of a table. -/
import Derived.Test.YtijabmambppfhaaP05E
set_option linter.unusedVariables false
set_option linter.unusedSimpArgs false
namespace Go.SyP
open Go Go.Sy Sets

/-! ### Keys -/
def insI : List Int → Int → List Int
  | [], n => [n]
  | x :: l, n => if x < n then x :: insI l n else if x = n then x :: l else n :: x :: l
theorem mem_insI : ∀ {l : List Int} {n j : Int}, j ∈ insI l n ↔ j ∈ l ∨ j = n
  | [], n, j => by simp [insI]
  | x :: l, n, j => by
    simp only [insI]
    split
    · rw [List.mem_cons, mem_insI, List.mem_cons, or_assoc]
    · split
      · rename_i h
        subst h
        simp only [List.mem_cons]
        constructor
        · exact .inl
        · rintro (h | h)
          · exact h
          · exact .inl h
      · simp only [List.mem_cons]
        constructor
        · rintro (h | h)
          · exact .inr h
          · exact .inl h
        · rintro (h | h)
          · exact .inr h
          · exact .inl h
theorem insI_up : ∀ {l : List Int} (n : Int), l.Pairwise (· < ·) → (insI l n).Pairwise (· < ·)
  | [], n, _ => by simp [insI]
  | x :: l, n, h => by
    have h1 := (List.pairwise_cons.1 h).1
    have h2 := (List.pairwise_cons.1 h).2
    simp only [insI]
    split
    · rename_i hx
      refine List.pairwise_cons.2 ⟨fun y hy => ?_, insI_up n h2⟩
      rcases mem_insI.1 hy with hy | rfl
      · exact h1 y hy
      · exact hx
    · split
      · exact h
      · refine List.pairwise_cons.2 ⟨fun y hy => ?_, h⟩
        rcases List.mem_cons.1 hy with rfl | hy
        · omega
        · have := h1 y hy; omega
theorem insI_length : ∀ (l : List Int) (n : Int), (insI l n).length ≤ l.length + 1
  | [], _ => by simp [insI]
  | x :: l, n => by
    simp only [insI]
    split
    · have := insI_length l n
      simp only [List.length_cons]
      omega
    · split <;> simp

theorem more_eq (l : List Int) (n : Int) (hn : l.length ≤ 5000) : spliceref05_more l n = some (insI l n) := by
  unfold spliceref05_more
  obtain ⟨r, h1, h2⟩ : ∃ r, goLoop (spliceref05_more.step l n) (.l1 false 0 []) = some r ∧ r = insI l n := by
    refine for_post (n := l.length) (fun i (x : Bool × List Int) => spliceref05_more.S.l1 x.1 (i : Int) x.2)
      (fun i x => x.2.length ≤ i + 1 ∧ (x.1 = false → x.2.length ≤ i ∧ x.2 ++ insI (l.drop i) n = insI l n) ∧ (x.1 = true → x.2 ++ l.drop i = insI l n)) _ ?_ ?_ 0 (false, []) (Nat.zero_le _) ⟨by simp, by simp, by simp⟩
    · rintro ⟨b, x⟩ ⟨hl, hf, ht⟩
      simp only at hl hf ht ⊢
      simp only [spliceref05_more.step, spliceref05_more.l1, spliceref05_more.j1, Int.lt_irrefl, if_false]
      cases b with
      | true =>
        have := ht rfl
        rw [List.drop_length, List.append_nil] at this
        exact ⟨x, by simp, this⟩
      | false =>
        have := (hf rfl).2
        rw [List.drop_length] at this
        refine ⟨x ++ [n], ?_, this⟩
        rw [if_neg (by decide), if_pos (by omega)]
    · rintro i ⟨b, x⟩ hi ⟨hl, hf, ht⟩
      simp only at hl hf ht ⊢
      have hstep : (0 : Int) ≤ (i : Int) ∧ (i : Int) < (l.length : Int) := by omega
      have hd := drop_atI (l := l) (z := (0 : Int)) hi
      simp only [spliceref05_more.step, spliceref05_more.l1, spliceref05_more.j2, spliceref05_more.j3, spliceref05_more.j4, hstep.2, if_true, hstep, and_self, wr1 hi (by omega : l.length ≤ 9223372036854775807)]
      generalize l.getD (i : Int).toNat 0 = X at hd ⊢
      rw [hd] at hf ht
      left
      have b1 : (x.length + 1) * 8 ≤ 140737488355328 := by omega
      have b2 : ((x ++ [n]).length + 1) * 8 ≤ 140737488355328 := by rw [List.length_append, List.length_singleton]; omega
      cases b with
      | true =>
        have := ht rfl
        refine ⟨(true, x ++ [X]), ?_, ?_, by simp, fun _ => ?_⟩
        · by_cases h : X = n <;> simp [h, b1]
        · simp; omega
        · simpa using this
      | false =>
        obtain ⟨hf1, hf2⟩ := hf rfl
        simp only [insI] at hf2
        by_cases h : X = n
        · subst h
          rw [if_neg (by omega), if_pos rfl] at hf2
          refine ⟨(true, x ++ [X]), by simp [b1], by simp; omega, by simp, fun _ => by simpa using hf2⟩
        · by_cases h2 : X > n
          · rw [if_neg (by omega), if_neg h] at hf2
            refine ⟨(true, x ++ [n] ++ [X]), ?_, by simp; omega, by simp, fun _ => by simpa using hf2⟩
            rw [if_neg h]
            simp only [Bool.false_eq_true, if_false, decide_eq_true h2, if_true]
            rw [if_pos b1, if_pos b2]
          · rw [if_pos (by omega)] at hf2
            refine ⟨(false, x ++ [X]), ?_, by simp; omega, fun _ => ⟨by simp; omega, by simpa using hf2⟩, by simp⟩
            rw [if_neg h]
            simp only [Bool.false_eq_true, if_false, decide_eq_false h2]
            rw [if_pos b1]
  rw [h1, h2]

def keysL (l : List api_Pair) (x : List Int) : List Int := l.foldl (fun x p => insI x p.Key) x
theorem mem_keysL : ∀ {l : List api_Pair} {x : List Int} {j : Int}, j ∈ keysL l x ↔ j ∈ x ∨ ∃ p ∈ l, p.Key = j
  | [], x, j => by simp [keysL]
  | p :: l, x, j => by
    rw [show keysL (p :: l) x = keysL l (insI x p.Key) from rfl, mem_keysL, mem_insI]
    constructor
    · rintro ((h | h) | ⟨q, h1, h2⟩)
      · exact .inl h
      · exact .inr ⟨p, by simp, h.symm⟩
      · exact .inr ⟨q, List.mem_cons_of_mem _ h1, h2⟩
    · rintro (h | ⟨q, h1, h2⟩)
      · exact .inl (.inl h)
      · rcases List.mem_cons.1 h1 with rfl | h1
        · exact .inl (.inr h2.symm)
        · exact .inr ⟨q, h1, h2⟩
theorem keysL_up : ∀ {l : List api_Pair} {x : List Int}, x.Pairwise (· < ·) → (keysL l x).Pairwise (· < ·)
  | [], _, h => h
  | p :: l, x, h => keysL_up (l := l) (insI_up p.Key h)
theorem keysL_length : ∀ (l : List api_Pair) (x : List Int), (keysL l x).length ≤ x.length + l.length
  | [], _ => by simp [keysL]
  | p :: l, x => by
    rw [show keysL (p :: l) x = keysL l (insI x p.Key) from rfl]
    have := keysL_length l (insI x p.Key)
    have := insI_length x p.Key
    simp only [List.length_cons]
    omega
theorem keysL_snoc (l : List api_Pair) (p : api_Pair) (x : List Int) : keysL (l ++ [p]) x = insI (keysL l x) p.Key := by simp [keysL, List.foldl_append]

theorem keys_eq (l : List api_Pair) (m : api_Mut) (hl : l.length ≤ 1000) (hm : m.Pairs.length ≤ 1000) : spliceref05_keys (l.map tr) (trM m) = some (keysL m.Pairs (keysL l [])) := by
  unfold spliceref05_keys
  obtain ⟨y, e1, e2⟩ := for_to (step := spliceref05_keys.step (l.map tr) (trM m)) (n := l.length) (fun i x => spliceref05_keys.S.l1 (i : Int) x) (fun i x => x = keysL (l.take i) []) (by
    intro i x hi h
    have hstep : (0 : Int) ≤ (i : Int) ∧ (i : Int) < (l.length : Int) := by omega
    have hx := take_atI (l := l) (z := api_Pair.z) hi
    have hb := keysL_length (l.take i) []
    rw [← h, List.length_take] at hb
    simp only [List.length_nil] at hb
    simp only [spliceref05_keys.step, spliceref05_keys.l1, List.length_map, hstep.2, if_true, hstep, and_self, tr_at l hi, wr1 hi (by omega : l.length ≤ 9223372036854775807), more_eq x _ (by omega), Option.bind_some]
    exact ⟨_, rfl, by rw [hx, keysL_snoc, h]; rfl⟩) 0 [] (Nat.zero_le _) (by simp [keysL])
  rw [take_all (Nat.le_refl _)] at e2
  rw [show ((0 : Nat) : Int) = 0 from rfl] at e1
  rw [e1, loop_eq]
  simp only [spliceref05_keys.step, spliceref05_keys.l1, List.length_map, Int.lt_irrefl, if_false, stk]
  have hb1 := keysL_length l []
  rw [← e2] at hb1
  simp only [List.length_nil] at hb1
  obtain ⟨r, h1, h2⟩ : ∃ r, goLoop (spliceref05_keys.step (l.map tr) (trM m)) (.l2 0 y) = some r ∧ r = keysL m.Pairs y := by
    refine for_post (n := m.Pairs.length) (fun i x => spliceref05_keys.S.l2 (i : Int) x) (fun i x => x = keysL (m.Pairs.take i) y) _ ?_ ?_ 0 y (Nat.zero_le _) (by simp [keysL])
    · intro x h
      rw [take_all (Nat.le_refl _)] at h
      exact ⟨x, by simp [spliceref05_keys.step, spliceref05_keys.l2, trM], h⟩
    · intro i x hi h
      left
      have hstep : (0 : Int) ≤ (i : Int) ∧ (i : Int) < (m.Pairs.length : Int) := by omega
      have hx := take_atI (l := m.Pairs) (z := api_Pair.z) hi
      have hb := keysL_length (m.Pairs.take i) y
      rw [← h, List.length_take] at hb
      simp only [spliceref05_keys.step, spliceref05_keys.l2, show (trM m).Pairs = m.Pairs.map tr from rfl, List.length_map, hstep.2, if_true, hstep, and_self, tr_at m.Pairs hi, wr1 hi (by omega : m.Pairs.length ≤ 9223372036854775807), more_eq x _ (by omega), Option.bind_some]
      exact ⟨_, rfl, by rw [hx, keysL_snoc, h]; rfl⟩
  rw [← e2]
  exact h1.trans (by rw [h2])

/-! ### What becomes of each key -/
def stepK (l : List api_Pair) (m : api_Mut) (on : List api_Span) (k : Int) : Option (Option Int) := if touB m k && hasB on k then cellO m k (look l k) else some (look l k)
def resL (f : Int → Option (Option Int)) (ks : List Int) : List api_Pair := ks.filterMap fun k => ((f k).getD none).map fun v => (⟨k, v⟩ : api_Pair)
theorem resL_keys {f : Int → Option (Option Int)} {ks : List Int} : ∀ x ∈ resL f ks, x.Key ∈ ks := by
  intro x hx
  obtain ⟨k, h1, h2⟩ := List.mem_filterMap.1 hx
  obtain ⟨v, _, rfl⟩ := Option.map_eq_some_iff.1 h2
  exact h1
theorem resL_up {f : Int → Option (Option Int)} : ∀ {ks : List Int}, ks.Pairwise (· < ·) → Up (resL f ks)
  | [], _ => by simp [resL, Up]
  | k :: ks, h => by
    have h1 := (List.pairwise_cons.1 h).1
    have h2 := resL_up (f := f) (List.pairwise_cons.1 h).2
    unfold resL
    rw [List.filterMap_cons]
    cases hf : (f k).getD none with
    | none => exact h2
    | some v => exact List.pairwise_cons.2 ⟨fun y hy => h1 _ (resL_keys y hy), h2⟩
theorem look_resL {f : Int → Option (Option Int)} {j : Int} : ∀ {ks : List Int}, ks.Pairwise (· < ·) → look (resL f ks) j = if j ∈ ks then (f j).getD none else none
  | [], _ => by simp [resL, look]
  | k :: ks, h => by
    have h1 := (List.pairwise_cons.1 h).1
    have ih := look_resL (f := f) (j := j) (List.pairwise_cons.1 h).2
    unfold resL at ih ⊢
    rw [List.filterMap_cons]
    by_cases hj : j = k
    · subst hj
      rw [if_neg (fun e => by have := h1 j e; omega)] at ih
      cases hf : (f j).getD none with
      | none => simp [ih]
      | some v => simp [look]
    · have : (j ∈ k :: ks) ↔ j ∈ ks := by simp [hj]
      simp only [this]
      cases hf : (f k).getD none with
      | none => simpa using ih
      | some v => simp only [Option.map_some, look, if_neg (fun e : k = j => hj e.symm)]; exact ih

/-- What a mutation makes of a table, told key by key. -/
structure ApplyTo (l : List api_Pair) (m : api_Mut) (on : List api_Span) (r : List api_Pair × Bool) : Prop where
  done : r.2 = true → Up r.1 ∧ ∀ j, stepK l m on j = some (look r.1 j)
  fail : r.2 = false → r.1 = l ∧ ∃ k, stepK l m on k = none
theorem ApplyTo.unique {l : List api_Pair} {m : api_Mut} {on : List api_Span} {r s : List api_Pair × Bool} (h : ApplyTo l m on r) (h' : ApplyTo l m on s) : r = s := by
  obtain ⟨a, x⟩ := r
  obtain ⟨b, y⟩ := s
  cases x with
  | true =>
    obtain ⟨h1, h2⟩ := h.done rfl
    cases y with
    | true =>
      obtain ⟨h3, h4⟩ := h'.done rfl
      have : a = b := Up.unique h1 h3 fun k => by
        have := (h2 k).symm.trans (h4 k)
        injection this
      rw [this]
    | false =>
      obtain ⟨_, k, h4⟩ := h'.fail rfl
      rw [h2 k] at h4
      cases h4
  | false =>
    obtain ⟨h1, k, h2⟩ := h.fail rfl
    cases y with
    | true =>
      obtain ⟨h3, h4⟩ := h'.done rfl
      rw [h4 k] at h2
      cases h2
    | false =>
      obtain ⟨h3, _⟩ := h'.fail rfl
      simp only at h1 h3
      rw [h1, h3]

theorem ref_Apply_eq (l : List api_Pair) (m : api_Mut) (on : List api_Span) (hl : l.length ≤ 1000) (hpl : m.Pairs.length ≤ 1000) (ho : on.length ≤ 5000) (ht : Tb l) (hm : mOk m = true) (hs : SOk on) :
    ∃ r : List api_Pair × Bool, spliceref05_Apply (l.map tr) (trM m) (on.map toR) = some (r.1.map tr, r.2) ∧ ApplyTo l m on r := by
  have hmi := mutIs hm
  obtain ⟨r1, c1, c2⟩ := ref5_Check_eq l (by omega)
  obtain ⟨r3, c5, c6⟩ := chkSR on ho
  have eta : (⟨(trM m).Client, (trM m).Seq, (trM m).Kind, (trM m).Pairs, (⟨(trM m).Over.Lo, (trM m).Over.Hi⟩ : spliceref03_Span), (trM m).Old⟩ : spliceref04_Mut) = trM m := rfl
  unfold spliceref05_Apply spliceref05_Apply.j1
  simp only [eta]
  rw [c1, c2.2 ht, Option.bind_some, if_pos rfl, ref_Check_eq m (by omega), hm, Option.bind_some, if_pos rfl, c5, c6.2 hs, Option.bind_some]
  rw [if_neg (by decide), keys_eq l m hl hpl, Option.bind_some]
  generalize hks : keysL m.Pairs (keysL l []) = ks
  have hup : ks.Pairwise (· < ·) := by rw [← hks]; exact keysL_up (keysL_up .nil)
  have hklen : ks.length ≤ 2000 := by
    have h1 := keysL_length m.Pairs (keysL l [])
    have h2 := keysL_length l []
    rw [hks] at h1
    simp only [List.length_nil] at h2
    omega
  have hmem : ∀ j, j ∈ ks ↔ (∃ p ∈ l, p.Key = j) ∨ ∃ p ∈ m.Pairs, p.Key = j := fun j => by
    rw [← hks, mem_keysL, mem_keysL]
    simp
  obtain ⟨r, e1, e2⟩ : ∃ r, goLoop (spliceref05_Apply.step (l.map tr) (trM m) (on.map toR) ks) (.l1 0 []) = some r ∧
      (((∀ k ∈ ks, (stepK l m on k).isSome = true) ∧ r = ((resL (stepK l m on) ks).map tr, true)) ∨ ((∃ k ∈ ks, stepK l m on k = none) ∧ r = (l.map tr, false))) := by
    refine for_post (n := ks.length) (fun i x => spliceref05_Apply.S.l1 (i : Int) x) (fun i x => (∀ k ∈ ks.take i, (stepK l m on k).isSome = true) ∧ x = (resL (stepK l m on) (ks.take i)).map tr) _ ?_ ?_ 0 [] (Nat.zero_le _) (by simp [resL])
    · rintro x ⟨h1, h2⟩
      rw [take_all (Nat.le_refl _)] at h1 h2
      exact ⟨_, by simp [spliceref05_Apply.step, spliceref05_Apply.l1]; rfl, .inl ⟨h1, by rw [h2]⟩⟩
    · rintro i x hi ⟨h1, h2⟩
      have hstep : (0 : Int) ≤ (i : Int) ∧ (i : Int) < (ks.length : Int) := by omega
      have hx := take_atI (l := ks) (z := (0 : Int)) hi
      have hin : ks.getD (i : Int).toNat 0 ∈ ks := by
        show ks.getD i 0 ∈ ks
        simp [List.getD_eq_getElem?_getD, hi]
      have hlen : x.length ≤ i := by
        rw [h2, List.length_map]
        refine Nat.le_trans (List.length_filterMap_le ..) ?_
        rw [List.length_take]
        omega
      simp only [spliceref05_Apply.step, spliceref05_Apply.l1, spliceref05_Apply.j2, spliceref05_Apply.j3, spliceref05_Apply.j4, eta, hstep.2, if_true, hstep, and_self, ref5_Get_eq l _ (by omega : l.length ≤ 9223372036854775807), Option.bind_some, touches_eq m _ (by omega : m.Pairs.length ≤ 5000), hasR_eq on ho, wr1 hi (by omega : ks.length ≤ 9223372036854775807)]
      generalize ks.getD (i : Int).toNat 0 = K at hin hx ⊢
      -- the key's new cell is written down
      have wr3 : ∀ d : Option Int, stepK l m on K = some d →
          ∃ y, (if d.isSome = true then (if (x.length + 1) * 16 ≤ 140737488355328 then some (.inl (.l1 ((i + 1 : Nat) : Int) (x ++ [(⟨K, d.getD 0⟩ : spliceref04_Pair)]))) else none) else some (.inl (.l1 ((i + 1 : Nat) : Int) x)) : Option (spliceref05_Apply.S ⊕ ((List spliceref04_Pair) × Bool))) = some (.inl (.l1 ((i + 1 : Nat) : Int) y)) ∧ (∀ k ∈ ks.take (i + 1), (stepK l m on k).isSome = true) ∧ y = (resL (stepK l m on) (ks.take (i + 1))).map tr := by
        intro d hd
        have hall : ∀ k ∈ ks.take (i + 1), (stepK l m on k).isSome = true := by
          intro k hk
          rw [hx] at hk
          rcases List.mem_append.1 hk with hk | hk
          · exact h1 k hk
          · simp only [List.mem_singleton] at hk
            rw [hk, hd]; rfl
        cases d with
        | none =>
          refine ⟨x, by simp, hall, ?_⟩
          rw [hx, h2]
          simp [resL, List.filterMap_append, hd]
        | some v =>
          refine ⟨x ++ [⟨K, v⟩], ?_, hall, ?_⟩
          · simp only [Option.isSome_some, if_true, Option.getD_some]
            rw [if_pos (by omega)]
          · rw [hx, h2]
            simp only [resL, List.filterMap_append, List.map_append]
            congr 1
            rw [List.filterMap_cons, hd]
            rfl
      by_cases hc : (touB m K && hasB on K) = true
      · have hc2 := hc
        simp only [Bool.and_eq_true] at hc2
        obtain ⟨r, q1, q2⟩ := cells_eq m hmi K (look l K) (look_bound ht K)
        unfold cellOf at q1
        simp only [hc2.1, hc2.2, if_true, q1, Option.bind_some]
        rcases q2 with ⟨q3, q4⟩ | ⟨d, q3, q4⟩
        · right
          rw [if_neg (by rw [q4]; decide)]
          refine ⟨_, rfl, .inr ⟨⟨K, hin, ?_⟩, rfl⟩⟩
          unfold stepK
          rw [if_pos hc, q3]
        · left
          rw [q4]
          simp only [if_true]
          exact wr3 d (by unfold stepK; rw [if_pos hc, q3])
      · left
        have hw := wr3 (look l K) (by unfold stepK; rw [if_neg hc])
        cases h3 : touB m K with
        | false =>
          simp only [Bool.false_eq_true, if_false]
          exact hw
        | true =>
          cases h4 : hasB on K with
          | false =>
            simp only [Bool.false_eq_true, if_false, if_true]
            exact hw
          | true => exact absurd (by rw [h3, h4]; rfl) hc
  rcases e2 with ⟨h1, h2⟩ | ⟨⟨k, h1, h3⟩, h2⟩
  · refine ⟨(resL (stepK l m on) ks, true), by rw [e1, h2], fun _ => ⟨resL_up hup, fun j => ?_⟩, fun h => by cases h⟩
    simp only
    rw [look_resL hup]
    by_cases hj : j ∈ ks
    · rw [if_pos hj]
      have := h1 j hj
      cases hh : stepK l m on j with
      | none => rw [hh] at this; cases this
      | some d => rfl
    · rw [if_neg hj]
      have hn := fun h => hj ((hmem j).2 h)
      have n1 : look l j = none := look_none fun p hp e => hn (.inl ⟨p, hp, e⟩)
      have n2 : look m.Pairs j = none := look_none fun p hp e => hn (.inr ⟨p, hp, e⟩)
      unfold stepK
      by_cases hc : (touB m j && hasB on j) = true
      · rw [if_pos hc]
        have ht' := (Bool.and_eq_true _ _ ▸ hc).1
        unfold touB at ht'
        by_cases k2 : m.Kind = 2
        · unfold cellO
          rw [if_pos k2]
        · rw [if_neg k2, n2] at ht'
          cases ht'
      · rw [if_neg hc, n1]
  · exact ⟨(l, false), by rw [e1, h2], ⟨(fun h => by cases h), fun _ => ⟨rfl, k, h3⟩⟩⟩
end Go.SyP
