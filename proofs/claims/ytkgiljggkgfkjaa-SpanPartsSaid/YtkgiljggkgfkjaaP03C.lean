/- What the reference's tables of keys come to. -/
import Derived.Test.YtkgiljggkgfkjaaP03B
set_option linter.unusedVariables false
set_option linter.unusedSimpArgs false
namespace Go.SyP
open Go Go.Sy Sets

theorem keysOf_getI (f : Nat → Bool) {k : Nat} (h : k < 4096) : (keysOf f).getD (k : Int).toNat false = f k := keysOf_get f h
theorem wr1' {i : Nat} (hn : i ≤ 4611686018427387904) : IntKind.wrap .i64 ((i : Int) + 1) = ((i + 1 : Nat) : Int) := by
  rw [wr (by omega)]; omega

theorem range_keys (f : Nat → Bool) (k : Nat) : (List.range (k + 1)).map f = (List.range k).map f ++ [f k] := by
  rw [List.range_succ, List.map_append]; rfl

theorem keys_l1 (r : List spliceref03_Span) : ∀ (m k : Nat), k + m = 4096 → goLoop (spliceref03_Keys.step r) (.l1 (k : Int) ((List.range k).map fun _ => false)) = goLoop (spliceref03_Keys.step r) (.l2 0 (keysOf fun _ => false)) := by
  intro m
  induction m with
  | zero =>
    intro k hk
    obtain rfl : k = 4096 := by omega
    rw [loop_eq]
    simp only [spliceref03_Keys.step, spliceref03_Keys.l1]
    rw [if_neg (by omega)]
    rfl
  | succ m ih =>
    intro k hk
    rw [loop_eq]
    simp only [spliceref03_Keys.step, spliceref03_Keys.l1]
    rw [if_pos (by omega), if_pos (by simp; omega), wr1' (by omega)]
    have := ih (k + 1) (by omega)
    rw [range_keys] at this
    exact this

theorem keys_l3 (r : List spliceref03_Span) (i : Nat) (hi : i < r.length) (hn : r.length ≤ 5000) (X : spliceref03_Span) (hX : r.getD (i : Int).toNat spliceref03_Span.z = X) (ho : Ok (pr X)) : ∀ (m k : Nat) (f : Nat → Bool), (k : Int) + m = X.Hi →
    goLoop (spliceref03_Keys.step r) (.l3 (i : Int) (k : Int) (keysOf f)) = goLoop (spliceref03_Keys.step r) (.l2 ((i + 1 : Nat) : Int) (keysOf fun q => f q || (decide (k ≤ q) && decide ((q : Int) < X.Hi)))) := by
  have hb : (0 : Int) ≤ (i : Int) ∧ (i : Int) < (r.length : Int) := by omega
  have ho' := ho
  unfold Ok pr at ho'
  simp only at ho'
  intro m
  induction m with
  | zero =>
    intro k f hk
    rw [loop_eq]
    simp only [spliceref03_Keys.step, spliceref03_Keys.l3]
    rw [if_pos hb, hX, spliceref03_One_eq, decide_eq_true ho, if_pos rfl]
    unfold spliceref03_Keys.j1
    rw [decide_eq_false (show ¬ (k : Int) < X.Hi by omega), if_neg (by decide), wr1' (by omega)]
    simp only [stk]
    have e : keysOf f = keysOf fun q => f q || (decide (k ≤ q) && decide ((q : Int) < X.Hi)) := keysOf_congr fun q _ => by
      have : (decide (k ≤ q) && decide ((q : Int) < X.Hi)) = false := by
        rw [Bool.and_eq_false_iff]
        by_cases h : k ≤ q
        · right; exact decide_eq_false (by omega)
        · left; exact decide_eq_false h
      rw [this, Bool.or_false]
    rw [← e]
  | succ m ih =>
    intro k f hk
    have h4 : k < 4096 := by omega
    rw [loop_eq]
    simp only [spliceref03_Keys.step, spliceref03_Keys.l3]
    rw [if_pos hb, hX, spliceref03_One_eq, decide_eq_true ho, if_pos rfl]
    unfold spliceref03_Keys.j1
    rw [decide_eq_true (show (k : Int) < X.Hi by omega), if_pos rfl, if_pos (by rw [keysOf_length]; omega), wr1' (by omega)]
    simp only [stk]
    have e : (keysOf f).set (k : Int).toNat true = keysOf fun q => f q || q == k := keysOf_set f h4
    rw [e, ih (k + 1) _ (by omega)]
    have e2 : (keysOf fun q => (f q || q == k) || (decide (k + 1 ≤ q) && decide ((q : Int) < X.Hi))) = keysOf fun q => f q || (decide (k ≤ q) && decide ((q : Int) < X.Hi)) := keysOf_congr fun q _ => by
      rw [Bool.or_assoc]
      refine congrArg (fun z => f q || z) ?_
      by_cases hq : q = k
      · subst hq
        rw [decide_eq_true (show (q : Int) < X.Hi by omega), decide_eq_true (Nat.le_refl q)]
        simp
      · have h1 : (q == k) = false := by simpa using hq
        rw [h1, Bool.false_or]
        exact congrArg (fun z => z && decide ((q : Int) < X.Hi)) (decide_eq_decide.2 (by omega))
    rw [e2]

theorem Keys_eq (r : List spliceref03_Span) (hn : r.length ≤ 5000) : spliceref03_Keys r = some (keys (r.map pr)) := by
  unfold spliceref03_Keys
  have h1 := keys_l1 r 4096 0 (by omega)
  have h1' : goLoop (spliceref03_Keys.step r) (.l1 0 []) = goLoop (spliceref03_Keys.step r) (.l2 0 (keysOf fun _ => false)) := h1
  rw [h1']
  have key : ∀ (m i : Nat), i + m = r.length → goLoop (spliceref03_Keys.step r) (.l2 (i : Int) (keys ((r.take i).map pr))) = some (keys (r.map pr)) := by
    intro m
    induction m with
    | zero =>
      intro i hi
      obtain rfl : i = r.length := by omega
      rw [loop_eq]
      simp only [spliceref03_Keys.step, spliceref03_Keys.l2]
      rw [if_neg (by omega), take_all (Nat.le_refl _)]
      rfl
    | succ m ih =>
      intro i hi
      have hil : i < r.length := by omega
      rw [loop_eq]
      simp only [spliceref03_Keys.step, spliceref03_Keys.l2]
      rw [if_pos (by omega), if_pos (by omega)]
      simp only [stk]
      have hnext := ih (i + 1) (by omega)
      rw [take_atI (z := spliceref03_Span.z) hil, List.map_append] at hnext
      rw [← hnext]
      by_cases ho : Ok (pr (r.getD (i : Int).toNat spliceref03_Span.z))
      · have ho' := ho
        unfold Ok pr at ho'
        simp only at ho'
        obtain ⟨lo, hlo⟩ : ∃ lo : Nat, (r.getD (i : Int).toNat spliceref03_Span.z).Lo = lo := ⟨(r.getD (i : Int).toNat spliceref03_Span.z).Lo.toNat, by omega⟩
        obtain ⟨m', hm'⟩ : ∃ m' : Nat, (lo : Int) + m' = (r.getD (i : Int).toNat spliceref03_Span.z).Hi := ⟨((r.getD (i : Int).toNat spliceref03_Span.z).Hi - lo).toNat, by omega⟩
        rw [hlo]
        unfold keys
        rw [keys_l3 r i hil hn _ rfl ho m' lo _ hm']
        have e2 : (keysOf fun q => memB (((r.take i).map pr).filter fun x => decide (Ok x)) q || (decide (lo ≤ q) && decide ((q : Int) < (r.getD (i : Int).toNat spliceref03_Span.z).Hi))) = keysOf fun q => memB (((r.take i).map pr ++ List.map pr [r.getD (i : Int).toNat spliceref03_Span.z]).filter fun x => decide (Ok x)) q := keysOf_congr fun q _ => by
          rw [List.filter_append, memB, memB, List.any_append]
          congr 1
          rw [List.map_cons, List.map_nil, List.filter_cons, if_pos (decide_eq_true ho)]
          simp only [List.filter_nil, List.any_cons, List.any_nil, Bool.or_false, pr, hlo]
          congr 1
          exact decide_eq_decide.2 (by omega)
        rw [e2]
      · rw [loop_eq]
        simp only [spliceref03_Keys.step, spliceref03_Keys.l3]
        rw [if_pos (by omega), spliceref03_One_eq, decide_eq_false ho, if_neg (by decide)]
        unfold spliceref03_Keys.j1
        rw [if_neg (by decide), wr1' (by omega)]
        simp only [stk]
        unfold keys
        rw [List.filter_append, List.map_cons, List.map_nil, List.filter_cons, if_neg (by rw [decide_eq_false ho]; decide), List.filter_nil, List.append_nil]
  have h2 := key r.length 0 (by omega)
  exact h2

/-! ### The set of keys -/
def setMu : spliceref03_Set.S → Nat
  | .l1 q _ => 3 * (4096 - q.toNat) + 1
  | .l2 q p _ => 3 * (4096 - q.toNat) + (if p < q then 2 else 0)
def setI (f : Nat → Bool) : spliceref03_Set.S → Prop
  | .l1 k out => ∃ q : Nat, k = q ∧ q ≤ 4096 ∧ Canon (out.map pr) ∧ (∀ x ∈ out.map pr, x.2 ≤ q ∧ (x.2 = q → q < 4096 → f q = false)) ∧ (∀ n : Nat, n < q → (mem (out.map pr) n ↔ f n = true)) ∧ out.length ≤ q
  | .l2 k fr out => ∃ p q : Nat, fr = p ∧ k = q ∧ p ≤ q ∧ q ≤ 4096 ∧ p < 4096 ∧ Canon (out.map pr) ∧ (∀ x ∈ out.map pr, x.2 ≤ p ∧ (x.2 = p → f p = false)) ∧ (∀ n : Nat, n < p → (mem (out.map pr) n ↔ f n = true)) ∧ (∀ n : Nat, p ≤ n → n < q → f n = true) ∧ out.length ≤ p
theorem Set_eq (f : Nat → Bool) : ∃ L : List spliceref03_Span, Canon (L.map pr) ∧ (∀ n : Nat, n < 4096 → (mem (L.map pr) n ↔ f n = true)) ∧ spliceref03_Set (keysOf f) = some (if 64 < L.length then ([], 2) else (L, 0)) := by
  have step : ∀ s, setI f s → (∃ s', spliceref03_Set.step (keysOf f) s = some (.inl s') ∧ setI f s' ∧ setMu s' < setMu s) ∨ ∃ r, spliceref03_Set.step (keysOf f) s = some (.inr r) ∧ ∃ L : List spliceref03_Span, Canon (L.map pr) ∧ (∀ n : Nat, n < 4096 → (mem (L.map pr) n ↔ f n = true)) ∧ r = if 64 < L.length then ([], 2) else (L, 0) := by
    intro s hs
    cases s with
    | l1 k out =>
      obtain ⟨q, rfl, hq, hc, he, hm, hl⟩ := hs
      simp only [spliceref03_Set.step, spliceref03_Set.l1, keysOf_length]
      by_cases hq2 : q < 4096
      · left
        refine ⟨.l2 (q : Int) (q : Int) out, by rw [if_pos (by omega)], ⟨q, q, rfl, rfl, Nat.le_refl _, by omega, hq2, hc, fun x hx => ⟨(he x hx).1, fun e => (he x hx).2 e hq2⟩, hm, fun n h1 h2 => by omega, hl⟩, ?_⟩
        simp [setMu]
      · right
        obtain rfl : q = 4096 := by omega
        rw [if_neg (by omega)]
        refine ⟨_, ?_, out, hc, hm, rfl⟩
        by_cases h6 : 64 < out.length
        · rw [if_pos (by omega), if_pos h6]
        · rw [if_neg (by omega), if_neg h6]
    | l2 k fr out =>
      obtain ⟨p, q, rfl, rfl, hpq, hq, hp, hc, he, hm, hon, hl⟩ := hs
      left
      simp only [spliceref03_Set.step, spliceref03_Set.l2, keysOf_length]
      by_cases hf : q < 4096 ∧ f q = true
      · refine ⟨.l2 ((q + 1 : Nat) : Int) (p : Int) out, ?_, ⟨p, q + 1, rfl, rfl, by omega, by omega, hp, hc, he, hm, fun n h1 h2 => ?_, hl⟩, ?_⟩
        · rw [if_pos (by omega), if_pos (by omega), keysOf_getI f hf.1, hf.2]
          unfold spliceref03_Set.j1
          rw [if_pos rfl, wr1' (by omega)]
        · by_cases e : n = q
          · subst e; exact hf.2
          · exact hon n h1 (by omega)
        · simp only [setMu]
          split <;> split <;> omega
      · have hbr : (if (q : Int) < ((4096 : Nat) : Int) then if 0 ≤ (q : Int) ∧ (q : Int) < ((4096 : Nat) : Int) then spliceref03_Set.j1 (q : Int) (p : Int) out ((keysOf f).getD (q : Int).toNat false) else none else spliceref03_Set.j1 (q : Int) (p : Int) out false) = spliceref03_Set.j1 (q : Int) (p : Int) out false := by
          by_cases h4 : q < 4096
          · rw [if_pos (by omega), if_pos (by omega), keysOf_getI f h4]
            have : f q = false := by
              cases h : f q with
              | false => rfl
              | true => exact absurd ⟨h4, h⟩ hf
            rw [this]
          · rw [if_neg (by omega)]
        rw [hbr]
        unfold spliceref03_Set.j1
        rw [if_neg (by simp)]
        by_cases hpq2 : p < q
        · rw [if_pos (by omega), if_pos (by omega)]
          refine ⟨_, rfl, ⟨q, rfl, hq, ?_, ?_, ?_, by simp; omega⟩, by simp [setMu, hpq2]⟩
          · rw [List.map_append]
            refine canon_snoc.2 ⟨hc, by unfold Ok; simp only [pr]; omega, fun y hy => ?_⟩
            have h1 := he y hy
            have h2 := hon p (Nat.le_refl _) hpq2
            simp only [pr]
            rcases Int.lt_or_eq_of_le h1.1 with h | h
            · exact h
            · rw [h1.2 h] at h2; cases h2
          · intro x hx
            rw [List.map_append] at hx
            rcases List.mem_append.1 hx with hx | hx
            · have := (he x hx).1
              exact ⟨by omega, fun e => by omega⟩
            · simp [pr] at hx
              subst hx
              refine ⟨by simp, fun _ h4 => ?_⟩
              cases h : f q with
              | false => rfl
              | true => exact absurd ⟨h4, h⟩ hf
          · intro n hn
            rw [List.map_append, mem_append]
            have e : mem (List.map pr [(⟨(p : Int), (q : Int)⟩ : spliceref03_Span)]) (n : Int) ↔ p ≤ n ∧ n < q := by
              simp only [List.map_cons, List.map_nil, pr, mem_cons, mem_nil, or_false]
              omega
            rw [e]
            by_cases h : n < p
            · rw [hm n h]
              constructor
              · rintro (h1 | h1)
                · exact h1
                · omega
              · exact .inl
            · exact ⟨fun _ => hon n (by omega) hn, fun _ => .inr ⟨by omega, hn⟩⟩
        · obtain rfl : p = q := by omega
          have hfq : f p = false := by
            cases h : f p with
            | false => rfl
            | true => exact absurd ⟨hp, h⟩ hf
          rw [if_neg (by omega), wr1' (by omega)]
          refine ⟨_, rfl, ⟨p + 1, rfl, by omega, hc, fun x hx => ?_, fun n hn => ?_, by omega⟩, ?_⟩
          · have := (he x hx).1
            exact ⟨by omega, fun e => by omega⟩
          · by_cases e : n = p
            · subst e
              rw [hfq]
              simp only [Bool.false_eq_true, iff_false]
              rintro ⟨x, hx, h1, h2⟩
              have := (he x hx).1
              omega
            · exact hm n (by omega)
          · simp only [setMu, Int.lt_irrefl, if_false]
            omega
  obtain ⟨r, h1, L, h2, h3, h4⟩ := loop_to (setI f) setMu _ step (.l1 0 []) ⟨0, rfl, by omega, Canon.nil, fun x hx => by simp at hx, fun n hn => by omega, by simp⟩
  exact ⟨L, h2, h3, by unfold spliceref03_Set; rw [h1, h4]⟩

/-! ### Two sets, key by key -/
def mixB (how : Int) (f g : Nat → Bool) (k : Nat) : Bool := if how = 2 then f k && !g k else if how = 1 then f k && g k else f k || g k
theorem mix_loop (how : Int) (f g : Nat → Bool) : goLoop (spliceref03_Mix.step how (keysOf f) (keysOf g)) (.l1 0 []) = spliceref03_Set (keysOf (mixB how f g)) := by
  have key : ∀ (m k : Nat), k + m = 4096 → goLoop (spliceref03_Mix.step how (keysOf f) (keysOf g)) (.l1 (k : Int) ((List.range k).map (mixB how f g))) = spliceref03_Set (keysOf (mixB how f g)) := by
    intro m
    induction m with
    | zero =>
      intro k hk
      obtain rfl : k = 4096 := by omega
      rw [loop_eq]
      simp only [spliceref03_Mix.step, spliceref03_Mix.l1]
      rw [if_neg (by omega)]
      obtain ⟨L, _, _, h⟩ := Set_eq (mixB how f g)
      have h' : spliceref03_Set (List.map (mixB how f g) (List.range 4096)) = some (if 64 < L.length then ([], 2) else (L, 0)) := h
      rw [h, h']
      rfl
    | succ m ih =>
      intro k hk
      have h := ih (k + 1) (by omega)
      rw [range_keys] at h
      rw [← h]
      rw [loop_eq]
      have hk4 : k < 4096 := by omega
      have hb : ∀ f : Nat → Bool, (0 : Int) ≤ (k : Int) ∧ (k : Int) < ((keysOf f).length : Int) := fun f => by rw [keysOf_length]; omega
      have hfin : ∀ y : Bool, y = mixB how f g k → stk (spliceref03_Mix.j4 (k : Int) ((List.range k).map (mixB how f g)) y) (goLoop (spliceref03_Mix.step how (keysOf f) (keysOf g))) = goLoop (spliceref03_Mix.step how (keysOf f) (keysOf g)) (.l1 ((k + 1 : Nat) : Int) ((List.range k).map (mixB how f g) ++ [mixB how f g k])) := by
        rintro _ rfl
        unfold spliceref03_Mix.j4
        rw [if_pos (by simp; omega), wr1' (by omega)]
        rfl
      simp only [spliceref03_Mix.step, spliceref03_Mix.l1]
      rw [if_pos (by omega), if_pos (hb f), keysOf_getI f hk4]
      have h3 : ∀ y : Bool, (how ≠ 2 → y = mixB how f g k) → spliceref03_Mix.j3 how (keysOf f) (keysOf g) (k : Int) ((List.range k).map (mixB how f g)) y = spliceref03_Mix.j4 (k : Int) ((List.range k).map (mixB how f g)) (mixB how f g k) := by
        intro y hy
        unfold spliceref03_Mix.j3
        by_cases h2 : how = 2
        · rw [if_pos h2, keysOf_getI f hk4]
          cases hf : f k with
          | true => rw [if_pos rfl, if_pos (hb g), keysOf_getI g hk4]; simp [mixB, h2, hf]
          | false => rw [if_neg (by simp)]; simp [mixB, h2, hf]
        · rw [if_neg h2, hy h2]
      have h2 : ∀ y : Bool, (how ≠ 2 → how ≠ 1 → y = mixB how f g k) → spliceref03_Mix.j2 how (keysOf f) (keysOf g) (k : Int) ((List.range k).map (mixB how f g)) y = spliceref03_Mix.j4 (k : Int) ((List.range k).map (mixB how f g)) (mixB how f g k) := by
        intro y hy
        unfold spliceref03_Mix.j2
        by_cases h1 : how = 1
        · rw [if_pos h1, keysOf_getI f hk4]
          cases hf : f k with
          | true => rw [if_pos rfl, if_pos (hb g), keysOf_getI g hk4]; exact h3 _ fun _ => by simp [mixB, h1, hf]
          | false => rw [if_neg (by simp)]; exact h3 _ fun _ => by simp [mixB, h1, hf]
        · rw [if_neg h1]
          exact h3 _ fun e => hy e h1
      cases hf : f k with
      | true =>
        rw [if_pos rfl, h2 true fun e1 e2 => by simp [mixB, e1, e2, hf]]
        exact hfin _ rfl
      | false =>
        rw [if_neg (by simp), if_pos (hb g), keysOf_getI g hk4, h2 _ fun e1 e2 => by simp [mixB, e1, e2, hf]]
        exact hfin _ rfl
  exact key 4096 0 (by omega)

theorem some_loop (how : Int) (f g : Nat → Bool) (hh : how = 1 ∨ how = 2) : ∃ r, goLoop (spliceref03_Some.step how (keysOf f) (keysOf g)) (.l1 0) = some r ∧ (r = true ↔ ∃ k : Nat, k < 4096 ∧ mixB how f g k = true) := by
  refine for_post (n := 4096) (fun i (_ : Unit) => spliceref03_Some.S.l1 (i : Int)) (fun i _ => ∀ k : Nat, k < i → mixB how f g k = false) _ ?_ ?_ 0 () (Nat.zero_le _) (fun k hk => by omega)
  · intro _ h
    refine ⟨false, by simp [spliceref03_Some.step, spliceref03_Some.l1], ?_⟩
    simp only [Bool.false_eq_true, false_iff]
    rintro ⟨k, h1, h2⟩
    rw [h k h1] at h2
    cases h2
  · intro k _ hk h
    have hb : ∀ f : Nat → Bool, (0 : Int) ≤ (k : Int) ∧ (k : Int) < ((keysOf f).length : Int) := fun f => by rw [keysOf_length]; omega
    simp only [spliceref03_Some.step, spliceref03_Some.l1]
    rw [if_pos (by omega), if_pos (hb f), keysOf_getI f hk]
    have fin : ∀ y : Bool, y = mixB how f g k → (∃ y_1 : Unit, spliceref03_Some.j1 (k : Int) y = some (.inl (.l1 ((k + 1 : Nat) : Int))) ∧ ∀ k_1 : Nat, k_1 < k + 1 → mixB how f g k_1 = false) ∨ ∃ r, spliceref03_Some.j1 (k : Int) y = some (.inr r) ∧ (r = true ↔ ∃ k : Nat, k < 4096 ∧ mixB how f g k = true) := by
      rintro _ rfl
      unfold spliceref03_Some.j1
      cases hm : mixB how f g k with
      | true =>
        right
        exact ⟨true, rfl, by simp only [true_iff]; exact ⟨k, hk, hm⟩⟩
      | false =>
        left
        refine ⟨(), by rw [if_neg (by simp), wr1' (by omega)], fun q hq => ?_⟩
        by_cases e : q = k
        · subst e; exact hm
        · exact h q (by omega)
    cases hf : f k with
    | false =>
      rw [if_neg (by simp)]
      refine fin false ?_
      rcases hh with rfl | rfl <;> simp [mixB, hf]
    | true =>
      rw [if_pos rfl]
      rcases hh with rfl | rfl
      · rw [if_pos rfl, if_pos (hb g), keysOf_getI g hk]
        cases hg : g k with
        | true => rw [if_pos rfl]; exact fin true (by simp [mixB, hf, hg])
        | false => rw [if_neg (by simp), if_neg (by omega)]; exact fin false (by simp [mixB, hf, hg])
      · rw [if_neg (by omega), if_pos rfl, if_pos (hb g), keysOf_getI g hk]
        exact fin _ (by simp [mixB, hf])

theorem count_loop (f : Nat → Bool) : goLoop (spliceref03_Count.step (keysOf f)) (.l1 0 0) = some (count f 4096 : Int) := by
  obtain ⟨r, h1, h2⟩ : ∃ r, goLoop (spliceref03_Count.step (keysOf f)) (.l1 0 0) = some r ∧ r = (count f 4096 : Int) := by
    refine for_post (n := 4096) (fun i (x : Int) => spliceref03_Count.S.l1 x (i : Int)) (fun i x => x = (count f i : Int) ∧ count f i ≤ i) _ ?_ ?_ 0 0 (Nat.zero_le _) ⟨rfl, Nat.le_refl _⟩
    · intro x h
      exact ⟨x, by simp [spliceref03_Count.step, spliceref03_Count.l1, keysOf_length], h.1⟩
    · rintro i x hi ⟨rfl, hc⟩
      left
      simp only [spliceref03_Count.step, spliceref03_Count.l1]
      rw [if_pos (by rw [keysOf_length]; omega), if_pos (by rw [keysOf_length]; omega), keysOf_getI f hi]
      have hs := count_succ f i
      cases hf : f i with
      | true =>
        rw [if_pos rfl]
        rw [hf] at hs
        simp only [if_true] at hs
        refine ⟨((count f i + 1 : Nat) : Int), by unfold spliceref03_Count.j1; rw [wr1' (by omega), wr1' (by omega)], by rw [hs], by omega⟩
      | false =>
        rw [if_neg (by simp)]
        rw [hf] at hs
        simp only [Bool.false_eq_true, if_false, Nat.add_zero] at hs
        exact ⟨(count f i : Int), by unfold spliceref03_Count.j1; rw [wr1' (by omega)], by rw [hs], by omega⟩
  rw [h1, h2]
end Go.SyP
