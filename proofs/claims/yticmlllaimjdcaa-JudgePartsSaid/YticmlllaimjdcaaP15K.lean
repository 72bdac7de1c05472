/- What mutations make of a table; clients' numbers; entries as the document has them. -/
import Derived.Test.YticmlllaimjdcaaP15J
set_option linter.unusedVariables false
set_option linter.unusedSimpArgs false
namespace Go.SyP
open Go Go.Sy Sets

def okM (l : List api_Mut) : Bool := l.all mOk
theorem onto_any (l : List api_Mut) (hl : l.length ≤ 5000) (hp : ∀ m ∈ l, m.Pairs.length ≤ 20) : slices_ContainsFunc_api_Mut l (fun z0 => judge_Onto_1 z0) = some (!okM l) := by
  rw [containsM l (by omega) _ (fun e => !mOk e) (fun x hx => by
    have := hp x hx
    unfold judge_Onto_1
    try simp only [show (⟨x.Client, x.Seq, x.Kind, x.Pairs, (⟨x.Over.Lo, x.Over.Hi⟩ : api_Span), x.Old⟩ : api_Mut) = x from rfl]
    rw [mut_Check_eq _ (by omega), Option.bind_some])]
  unfold okM
  rw [List.not_all_eq_any_not]
theorem Onto_loop {on : List api_Span} {base : List api_Pair} {l : List api_Mut} (hl : base.length + 8 * l.length ≤ 1000) (ho : on.length ≤ 5000) (ht : Tb base) (hs : SOk on) (hok : okM l = true) :
    goLoop (judge_Onto.step l on) (.l1 0 base) = some (foldM on base l) := by
  have h := for_fold (step := judge_Onto.step l on) l api_Mut.z (fun i t => judge_Onto.S.l1 (i : Int) t) (fun t m => (apD on t m).1) (fun i t => Tb t ∧ t.length ≤ base.length + 8 * i) (fun i t hi ⟨hb, hlen⟩ => by
    have hstep : (0 : Int) ≤ (i : Int) ∧ (i : Int) < (l.length : Int) := by omega
    have hg : l.getD (i : Int).toNat api_Mut.z = l.getD i api_Mut.z := rfl
    have hm : mOk (l.getD i api_Mut.z) = true := List.all_eq_true.1 hok _ (getD_in (z := api_Mut.z) hi)
    simp only [judge_Onto.step, judge_Onto.l1, hstep.2, if_true, hstep, and_self, hg, wr1 hi (by omega : l.length ≤ 9223372036854775807)]
    generalize l.getD i api_Mut.z = m at hm ⊢
    have a := apD_spec (on := on) (t := t) (m := m) (by omega) ho hb hm hs
    have := a.len
    rw [a.run, Option.bind_some]
    exact ⟨rfl, a.tb, by omega⟩) base ⟨ht, by simp⟩
  have e := h.1
  simp only [show ((0 : Nat) : Int) = 0 from rfl] at e
  rw [e, loop_eq]
  simp [judge_Onto.step, judge_Onto.l1, stk, foldM]
theorem Onto_good {on : List api_Span} {base : List api_Pair} {l : List api_Mut} (hl : base.length + 8 * l.length ≤ 1000) (hp : ∀ m ∈ l, m.Pairs.length ≤ 20) (ho : on.length ≤ 5000) (ht : Tb base) (hs : SOk on) (hok : okM l = true) :
    judge_Onto base l on = some (foldM on base l) := by
  obtain ⟨r, c1, c2⟩ := table_Check_eq base (by omega)
  obtain ⟨s, c3, c4⟩ := chkS on ho
  unfold judge_Onto
  rw [c1, Option.bind_some, if_pos (c2.2 ht), c3, Option.bind_some, if_pos (c4.2 hs), onto_any l (by omega) hp, Option.bind_some, hok]
  unfold judge_Onto.j1
  rw [if_neg (by decide), if_pos (by omega)]
  exact Onto_loop hl ho ht hs hok
theorem Onto_bad {on : List api_Span} {base : List api_Pair} {l : List api_Mut} (hb : base.length ≤ 5000) (hl : l.length ≤ 5000) (hp : ∀ m ∈ l, m.Pairs.length ≤ 20) (ho : on.length ≤ 5000) (h : ¬ (Tb base ∧ SOk on ∧ okM l = true)) :
    judge_Onto base l on = some [] := by
  obtain ⟨r, c1, c2⟩ := table_Check_eq base (by omega)
  obtain ⟨s, c3, c4⟩ := chkS on ho
  unfold judge_Onto
  rw [c1, Option.bind_some]
  cases hr : r with
  | false => rfl
  | true =>
    rw [if_pos rfl, c3, Option.bind_some]
    cases hs : s with
    | false => rfl
    | true =>
      rw [if_pos rfl, onto_any l hl hp, Option.bind_some]
      cases hok : okM l with
      | false => rfl
      | true => exact absurd ⟨c2.1 hr, c4.1 hs, hok⟩ h

theorem trM_at (l : List api_Mut) {i : Nat} (hi : i < l.length) : (l.map trM).getD i spliceref04_Mut.z = trM (l.getD i api_Mut.z) := by
  simp [List.getD_eq_getElem?_getD, hi]
theorem ref_Onto_first (base : List spliceref04_Pair) {l : List api_Mut} (on : List spliceref03_Span) (hl : l.length ≤ 5000) (hp : ∀ m ∈ l, m.Pairs.length ≤ 20) :
    goLoop (spliceref15_Onto.step base (l.map trM) on) (.l1 0) = if okM l = true then goLoop (spliceref15_Onto.step base (l.map trM) on) (.l2 base 0) else some [] := by
  have step1 : ∀ i, i < l.length → spliceref15_Onto.step base (l.map trM) on (.l1 (i : Int)) = if mOk (l.getD i api_Mut.z) = true then some (.inl (.l1 ((i + 1 : Nat) : Int))) else some (.inr []) := fun i hi => by
    have hstep : (0 : Int) ≤ (i : Int) ∧ (i : Int) < (l.length : Int) := by omega
    have hp := hp _ (getD_in (z := api_Mut.z) hi)
    simp only [spliceref15_Onto.step, spliceref15_Onto.l1, List.length_map, hstep.2, if_true, hstep, and_self, show (i : Int).toNat = i from rfl, trM_at l hi, ref_Check_eq _ (by omega : (l.getD i api_Mut.z).Pairs.length ≤ 5000), Option.bind_some, wr1 hi (by omega : l.length ≤ 9223372036854775807)]
  have go1 : ∀ i, i ≤ l.length → goLoop (spliceref15_Onto.step base (l.map trM) on) (.l1 (i : Int)) = if okM (l.drop i) = true then goLoop (spliceref15_Onto.step base (l.map trM) on) (.l2 base 0) else some [] := by
    intro i
    induction hk : l.length - i generalizing i with
    | zero =>
      intro hi
      obtain rfl : i = l.length := by omega
      rw [List.drop_length, loop_eq]
      simp [spliceref15_Onto.step, spliceref15_Onto.l1, stk, okM]
    | succ m ih =>
      intro hi
      have hi' : i < l.length := by omega
      rw [loop_eq, step1 i hi', List.drop_eq_getElem_cons hi']
      have e : l[i] = l.getD i api_Mut.z := by simp [hi']
      unfold okM
      rw [List.all_cons, e]
      by_cases h : mOk (l.getD i api_Mut.z) = true
      · rw [if_pos h, h, Bool.true_and]
        exact ih (i + 1) (by omega) (by omega)
      · rw [if_neg h, if_neg (by rw [Bool.and_eq_true]; exact fun hh => h hh.1)]
        rfl
  have := go1 0 (Nat.zero_le _)
  rwa [List.drop_zero, show ((0 : Nat) : Int) = 0 from rfl] at this
theorem ref_Onto_good {on : List api_Span} {base : List api_Pair} {l : List api_Mut} (hl : base.length + 8 * l.length ≤ 1000) (hp : ∀ m ∈ l, m.Pairs.length ≤ 20) (ho : on.length ≤ 5000) (ht : Tb base) (hs : SOk on) (hok : okM l = true) :
    spliceref15_Onto (base.map tr) (l.map trM) (on.map toR) = some ((foldM on base l).map tr) := by
  obtain ⟨r, c1, c2⟩ := ref5_Check_eq base (by omega)
  obtain ⟨s, c3, c4⟩ := chkSR on ho
  unfold spliceref15_Onto
  rw [c1, Option.bind_some, if_pos (c2.2 ht), c3, Option.bind_some, c4.2 hs]
  unfold spliceref15_Onto.j1
  rw [if_neg (by decide), ref_Onto_first _ _ (by omega) hp, if_pos hok]
  have h := for_fold (step := spliceref15_Onto.step (base.map tr) (l.map trM) (on.map toR)) l api_Mut.z (fun i t => spliceref15_Onto.S.l2 (t.map tr) (i : Int)) (fun t m => (apD on t m).1) (fun i t => Tb t ∧ t.length ≤ base.length + 8 * i) (fun i t hi ⟨hb, hlen⟩ => by
    have hstep : (0 : Int) ≤ (i : Int) ∧ (i : Int) < (l.length : Int) := by omega
    have hm : mOk (l.getD i api_Mut.z) = true := List.all_eq_true.1 hok _ (getD_in (z := api_Mut.z) hi)
    simp only [spliceref15_Onto.step, spliceref15_Onto.l2, List.length_map, hstep.2, if_true, hstep, and_self, show (i : Int).toNat = i from rfl, trM_at l hi, wr1 hi (by omega : l.length ≤ 9223372036854775807)]
    generalize l.getD i api_Mut.z = m at hm ⊢
    have a := apD_spec (on := on) (t := t) (m := m) (by omega) ho hb hm hs
    have := a.len
    rw [a.ref, Option.bind_some]
    exact ⟨rfl, a.tb, by omega⟩) base ⟨ht, by simp⟩
  have e := h.1
  simp only [show ((0 : Nat) : Int) = 0 from rfl] at e
  rw [e, loop_eq]
  simp [spliceref15_Onto.step, spliceref15_Onto.l2, stk, foldM]
theorem ref_Onto_bad {on : List api_Span} {base : List api_Pair} {l : List api_Mut} (hb : base.length ≤ 5000) (hl : l.length ≤ 5000) (hp : ∀ m ∈ l, m.Pairs.length ≤ 20) (ho : on.length ≤ 5000) (h : ¬ (Tb base ∧ SOk on ∧ okM l = true)) :
    spliceref15_Onto (base.map tr) (l.map trM) (on.map toR) = some [] := by
  obtain ⟨r, c1, c2⟩ := ref5_Check_eq base (by omega)
  obtain ⟨s, c3, c4⟩ := chkSR on ho
  unfold spliceref15_Onto
  rw [c1, Option.bind_some]
  cases hr : r with
  | false => rfl
  | true =>
    rw [if_pos rfl, c3, Option.bind_some]
    cases hs : s with
    | false => rfl
    | true =>
      unfold spliceref15_Onto.j1
      rw [if_neg (by decide), ref_Onto_first _ _ hl hp]
      cases hok : okM l with
      | false => rfl
      | true => exact absurd ⟨c2.1 hr, c4.1 hs, hok⟩ h

/-! ### Clients -/
def badC (o e : api_Entry) : Bool := decide (o.M.Client = e.M.Client) && decide (o.M.Seq ≥ e.M.Seq)
def CliOk (l : List api_Entry) : Prop := ∀ j i, j < i → i < l.length → badC (l.getD j api_Entry.z) (l.getD i api_Entry.z) = false
theorem clients1_eq (o e : api_Entry) : judge_Clients_1 o e = badC o e := by
  unfold judge_Clients_1 judge_Clients_1.j1 badC
  by_cases h : o.M.Client = e.M.Client
  · rw [if_pos h, decide_eq_true h, Bool.true_and]
  · rw [if_neg h, decide_eq_false h, Bool.false_and]
theorem any_take (l : List api_Entry) (i : Nat) (hi : i < l.length) (e : api_Entry) : (l.take i).any (fun o => badC o e) = false ↔ ∀ j, j < i → badC (l.getD j api_Entry.z) e = false := by
  rw [List.any_eq_false]
  constructor
  · intro h j hj
    have : l.getD j api_Entry.z ∈ l.take i := by
      rw [List.mem_take_iff_getElem]
      exact ⟨j, by omega, by simp [List.getD_eq_getElem?_getD, show j < l.length by omega]⟩
    simpa using h _ this
  · intro h x hx
    obtain ⟨j, hj, rfl⟩ := List.mem_take_iff_getElem.1 hx
    have := h j (by omega)
    rw [List.getD_eq_getElem?_getD, List.getElem?_eq_getElem (by omega), Option.getD_some] at this
    rw [this]
    decide
theorem Clients_eq (l : List api_Entry) (hl : l.length ≤ 5000) : ∃ r, judge_Clients l = some r ∧ (r = true ↔ CliOk l) := by
  unfold judge_Clients
  refine for_post (n := l.length) (fun i (_ : Unit) => judge_Clients.S.l1 (i : Int)) (fun i _ => ∀ j q, j < q → q < i → badC (l.getD j api_Entry.z) (l.getD q api_Entry.z) = false) _ ?_ ?_ 0 () (Nat.zero_le _) (by intro j q h1 h2; omega)
  · intro _ h
    exact ⟨true, by simp [judge_Clients.step, judge_Clients.l1], iff_of_true rfl fun j i h1 h2 => h j i h1 h2⟩
  · intro i _ hi h
    have hstep : (0 : Int) ≤ (i : Int) ∧ (i : Int) < (l.length : Int) := by omega
    have h3 : (0 : Int) ≤ (0 : Int) ∧ (0 : Int) ≤ (i : Int) ∧ (i : Int) ≤ (l.length : Int) := by omega
    simp only [judge_Clients.step, judge_Clients.l1, hstep.2, if_true, hstep, and_self, show (i : Int).toNat = i from rfl, List.drop_zero, Nat.sub_zero, clients1_eq, wr1 hi (by omega : l.length ≤ 9223372036854775807)]
    rw [if_pos (by exact ⟨by omega, trivial, by omega⟩), containsE _ (by simp; omega) _ (fun o => badC o (l.getD i api_Entry.z)) (fun x _ => rfl), Option.bind_some]
    cases hb : (l.take i).any (fun o => badC o (l.getD i api_Entry.z)) with
    | true =>
      right
      refine ⟨false, by simp, ?_⟩
      simp only [Bool.false_eq_true, false_iff]
      intro hc
      have := (any_take l i hi _).2 fun j hj => hc j i hj hi
      rw [this] at hb
      cases hb
    | false =>
      left
      refine ⟨(), by simp, fun j q h1 h2 => ?_⟩
      rcases Nat.lt_or_ge q i with h4 | h4
      · exact h j q h1 h4
      · obtain rfl : q = i := by omega
        exact (any_take l q hi _).1 hb j h1
theorem ref_Clients_eq (l : List api_Entry) (hl : l.length ≤ 5000) : ∃ r, spliceref15_Clients (l.map trE) = some r ∧ (r = true ↔ CliOk l) := by
  unfold spliceref15_Clients
  have inner : ∀ i, i < l.length → ∀ j, j ≤ i → (∀ q, q < j → badC (l.getD q api_Entry.z) (l.getD i api_Entry.z) = false) →
      (goLoop (spliceref15_Clients.step (l.map trE)) (.l2 (i : Int) (j : Int)) = goLoop (spliceref15_Clients.step (l.map trE)) (.l1 ((i + 1 : Nat) : Int)) ∧ ∀ q, q < i → badC (l.getD q api_Entry.z) (l.getD i api_Entry.z) = false) ∨
      (goLoop (spliceref15_Clients.step (l.map trE)) (.l2 (i : Int) (j : Int)) = some false ∧ ¬ CliOk l) := by
    intro i hi j
    induction hk : i - j generalizing j with
    | zero =>
      intro hj h
      obtain rfl : j = i := by omega
      left
      refine ⟨?_, h⟩
      rw [loop_eq]
      simp only [spliceref15_Clients.step, spliceref15_Clients.l2, Int.lt_irrefl, if_false, stk, wr1 hi (by omega : l.length ≤ 9223372036854775807)]
    | succ m ih =>
      intro hj h
      have hj' : j < i := by omega
      have h1 : (0 : Int) ≤ (i : Int) ∧ (i : Int) < (l.length : Int) := by omega
      have h2 : (0 : Int) ≤ (j : Int) ∧ (j : Int) < (l.length : Int) := by omega
      have hw : IntKind.wrap .i64 ((j : Int) + 1) = ((j + 1 : Nat) : Int) := wr1 hj' (by omega)
      have hs : spliceref15_Clients.step (l.map trE) (.l2 (i : Int) (j : Int)) = if badC (l.getD j api_Entry.z) (l.getD i api_Entry.z) = true then some (.inr false) else some (.inl (.l2 (i : Int) ((j + 1 : Nat) : Int))) := by
        simp only [spliceref15_Clients.step, spliceref15_Clients.l2, spliceref15_Clients.j1, List.length_map, h1, h2, and_self, if_true, show (i : Int).toNat = i from rfl, show (j : Int).toNat = j from rfl, trE_at l hi, trE_at l (show j < l.length by omega), hw]
        rw [if_pos (by omega)]
        unfold badC
        by_cases hc : (l.getD j api_Entry.z).M.Client = (l.getD i api_Entry.z).M.Client
        · rw [if_pos (show (trE (l.getD j api_Entry.z)).M.Client = (trE (l.getD i api_Entry.z)).M.Client from hc), decide_eq_true hc, Bool.true_and]
          rfl
        · rw [if_neg (show ¬ (trE (l.getD j api_Entry.z)).M.Client = (trE (l.getD i api_Entry.z)).M.Client from hc), decide_eq_false hc, Bool.false_and]
      rw [loop_eq, hs]
      cases hb : badC (l.getD j api_Entry.z) (l.getD i api_Entry.z) with
      | true =>
        right
        refine ⟨rfl, fun hc => ?_⟩
        rw [hc j i hj' hi] at hb
        cases hb
      | false =>
        rw [if_neg (by decide)]
        refine ih (j + 1) (by omega) (by omega) fun q hq => ?_
        rcases Nat.lt_or_ge q j with h4 | h4
        · exact h q h4
        · obtain rfl : q = j := by omega
          exact hb
  have outer : ∀ i, i ≤ l.length → (∀ j q, j < q → q < i → badC (l.getD j api_Entry.z) (l.getD q api_Entry.z) = false) → ∃ r, goLoop (spliceref15_Clients.step (l.map trE)) (.l1 (i : Int)) = some r ∧ (r = true ↔ CliOk l) := by
    intro i
    induction hk : l.length - i generalizing i with
    | zero =>
      intro hi h
      obtain rfl : i = l.length := by omega
      refine ⟨true, by rw [loop_eq]; simp [spliceref15_Clients.step, spliceref15_Clients.l1, stk], iff_of_true rfl fun j i h1 h2 => h j i h1 h2⟩
    | succ m ih =>
      intro hi h
      have hi' : i < l.length := by omega
      have hs : spliceref15_Clients.step (l.map trE) (.l1 (i : Int)) = some (.inl (.l2 (i : Int) ((0 : Nat) : Int))) := by
        simp only [spliceref15_Clients.step, spliceref15_Clients.l1, List.length_map]
        rw [if_pos (by omega)]
        rfl
      rw [loop_eq, hs]
      show ∃ r, goLoop (spliceref15_Clients.step (l.map trE)) (.l2 (i : Int) ((0 : Nat) : Int)) = some r ∧ _
      rcases inner i hi' 0 (Nat.zero_le _) (fun q hq => by omega) with ⟨e1, e2⟩ | ⟨e1, e2⟩
      · rw [e1]
        refine ih (i + 1) (by omega) (by omega) fun j q h1 h2 => ?_
        rcases Nat.lt_or_ge q i with h4 | h4
        · exact h j q h1 h4
        · obtain rfl : q = i := by omega
          exact e2 j h1
      · exact ⟨false, e1, by simp [e2]⟩
  exact outer 0 (Nat.zero_le _) (fun j q h1 h2 => by omega)

/-! ### Entries as the document has them -/
theorem Entries_eq (l : List api_Entry) (hl : l.length ≤ 5000) (hp : ∀ e ∈ l, e.M.Pairs.length ≤ 5000) : splicelaw15_Entries l = some (l.map trE) := by
  unfold splicelaw15_Entries splicelaw12_Ref
  rw [Refs5_eq [] (by simp), Option.bind_some]
  generalize hc : (⟨0, (⟨0, 0⟩ : api_Span), 0, false, false, [], [], l, []⟩ : api_Core) = c
  have hL : c.Log = l := by rw [← hc]
  have hH : c.Held = [] := by rw [← hc]
  have hK : c.Known = [] := by rw [← hc]
  have s1 : splicelaw12_Ref.step c (List.map tr []) (.l1 0 []) = some (.inl (.l2 ((0 : Nat) : Int) [] [])) := by
    simp only [splicelaw12_Ref.step, splicelaw12_Ref.l1, hH]
    rfl
  rw [loop_eq, s1]
  show ((goLoop (splicelaw12_Ref.step c (List.map tr [])) (.l2 ((0 : Nat) : Int) [] [])).bind fun v1 => some v1.Log) = some (l.map trE)
  have h := for_fold (step := splicelaw12_Ref.step c (List.map tr [])) l api_Entry.z (fun i t => splicelaw12_Ref.S.l2 (i : Int) [] t) (fun t e => t ++ [trE e]) (fun i t => t.length = i) (fun i t hi hlen => by
    have hstep : (0 : Int) ≤ (i : Int) ∧ (i : Int) < (l.length : Int) := by omega
    have hpp := hp _ (getD_in (z := api_Entry.z) hi)
    simp only [splicelaw12_Ref.step, splicelaw12_Ref.l2, hL, hstep.2, if_true, hstep, and_self, show (i : Int).toNat = i from rfl, RefM_eq _ hpp, Option.bind_some, wr1 hi (by omega : l.length ≤ 9223372036854775807)]
    rw [if_pos (by omega)]
    exact ⟨rfl, by simp [hlen]⟩) [] rfl
  have e := h.1
  rw [e, loop_eq]
  have hf : ∀ (l : List api_Entry) (t : List spliceref12_Entry), l.foldl (fun t e => t ++ [trE e]) t = t ++ l.map trE := by
    intro l
    induction l with
    | nil => intro t; simp
    | cons e l ih => intro t; rw [List.foldl_cons, ih]; simp
  rw [hf, List.nil_append]
  have s2 : splicelaw12_Ref.step c (List.map tr []) (.l2 (l.length : Int) [] (l.map trE)) = some (.inl (.l4 0 [] (l.map trE) [])) := by
    simp only [splicelaw12_Ref.step, splicelaw12_Ref.l2, hL, Int.lt_irrefl, if_false]
  rw [s2]
  show ((goLoop (splicelaw12_Ref.step c (List.map tr [])) (.l4 0 [] (l.map trE) [])).bind fun v1 => some v1.Log) = some (l.map trE)
  rw [loop_eq]
  simp only [splicelaw12_Ref.step, splicelaw12_Ref.l4, hK]
  rfl
end Go.SyP
