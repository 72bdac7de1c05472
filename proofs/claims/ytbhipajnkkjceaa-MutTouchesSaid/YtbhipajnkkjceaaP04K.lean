/- Sets of keys, of the reference. -/
import Derived.Test.YtbhipajnkkjceaaP04O
set_option linter.unusedVariables false
set_option linter.unusedSimpArgs false
namespace Go.SyP
open Go Go.Sy Sets

theorem keysOf_getI (f : Nat → Bool) {k : Nat} (h : k < 4096) : (keysOf f).getD (k : Int).toNat false = f k := keysOf_get f h
theorem wr1' {i : Nat} (hn : i ≤ 4611686018427387904) : IntKind.wrap .i64 ((i : Int) + 1) = ((i + 1 : Nat) : Int) := by
  rw [wr (by omega)]; omega

theorem range_keys (f : Nat → Bool) (k : Nat) : (List.range (k + 1)).map f = (List.range k).map f ++ [f k] := by
  rw [List.range_succ, List.map_append]; rfl

theorem keys_l1 (r : List spliceref03_Span) : ∀ (m k : Nat), k + m = 4096 → goLoop (spliceref03_Keys.step r) (.l1 (k : Int) ((List.range k).map fun _ => false)) = goLoop (spliceref03_Keys.step r) (.l2 0 (keysOf fun _ => false)) := by
  intro m
  induction m with
  | zero =>
    intro k hk
    obtain rfl : k = 4096 := by omega
    rw [loop_eq]
    simp only [spliceref03_Keys.step, spliceref03_Keys.l1]
    rw [if_neg (by omega)]
    rfl
  | succ m ih =>
    intro k hk
    rw [loop_eq]
    simp only [spliceref03_Keys.step, spliceref03_Keys.l1]
    rw [if_pos (by omega), if_pos (by simp; omega), wr1' (by omega)]
    have := ih (k + 1) (by omega)
    rw [range_keys] at this
    exact this

theorem keys_l3 (r : List spliceref03_Span) (i : Nat) (hi : i < r.length) (hn : r.length ≤ 5000) (X : spliceref03_Span) (hX : r.getD (i : Int).toNat spliceref03_Span.z = X) (ho : Ok (pr X)) : ∀ (m k : Nat) (f : Nat → Bool), (k : Int) + m = X.Hi →
    goLoop (spliceref03_Keys.step r) (.l3 (i : Int) (k : Int) (keysOf f)) = goLoop (spliceref03_Keys.step r) (.l2 ((i + 1 : Nat) : Int) (keysOf fun q => f q || (decide (k ≤ q) && decide ((q : Int) < X.Hi)))) := by
  have hb : (0 : Int) ≤ (i : Int) ∧ (i : Int) < (r.length : Int) := by omega
  have ho' := ho
  unfold Ok pr at ho'
  simp only at ho'
  intro m
  induction m with
  | zero =>
    intro k f hk
    rw [loop_eq]
    simp only [spliceref03_Keys.step, spliceref03_Keys.l3]
    rw [if_pos hb, hX, spliceref03_One_eq, decide_eq_true ho, if_pos rfl]
    unfold spliceref03_Keys.j1
    rw [decide_eq_false (show ¬ (k : Int) < X.Hi by omega), if_neg (by decide), wr1' (by omega)]
    simp only [stk]
    have e : keysOf f = keysOf fun q => f q || (decide (k ≤ q) && decide ((q : Int) < X.Hi)) := keysOf_congr fun q _ => by
      have : (decide (k ≤ q) && decide ((q : Int) < X.Hi)) = false := by
        rw [Bool.and_eq_false_iff]
        by_cases h : k ≤ q
        · right; exact decide_eq_false (by omega)
        · left; exact decide_eq_false h
      rw [this, Bool.or_false]
    rw [← e]
  | succ m ih =>
    intro k f hk
    have h4 : k < 4096 := by omega
    rw [loop_eq]
    simp only [spliceref03_Keys.step, spliceref03_Keys.l3]
    rw [if_pos hb, hX, spliceref03_One_eq, decide_eq_true ho, if_pos rfl]
    unfold spliceref03_Keys.j1
    rw [decide_eq_true (show (k : Int) < X.Hi by omega), if_pos rfl, if_pos (by rw [keysOf_length]; omega), wr1' (by omega)]
    simp only [stk]
    have e : (keysOf f).set (k : Int).toNat true = keysOf fun q => f q || q == k := keysOf_set f h4
    rw [e, ih (k + 1) _ (by omega)]
    have e2 : (keysOf fun q => (f q || q == k) || (decide (k + 1 ≤ q) && decide ((q : Int) < X.Hi))) = keysOf fun q => f q || (decide (k ≤ q) && decide ((q : Int) < X.Hi)) := keysOf_congr fun q _ => by
      rw [Bool.or_assoc]
      refine congrArg (fun z => f q || z) ?_
      by_cases hq : q = k
      · subst hq
        rw [decide_eq_true (show (q : Int) < X.Hi by omega), decide_eq_true (Nat.le_refl q)]
        simp
      · have h1 : (q == k) = false := by simpa using hq
        rw [h1, Bool.false_or]
        exact congrArg (fun z => z && decide ((q : Int) < X.Hi)) (decide_eq_decide.2 (by omega))
    rw [e2]

theorem Keys_eq (r : List spliceref03_Span) (hn : r.length ≤ 5000) : spliceref03_Keys r = some (keys (r.map pr)) := by
  unfold spliceref03_Keys
  have h1 := keys_l1 r 4096 0 (by omega)
  have h1' : goLoop (spliceref03_Keys.step r) (.l1 0 []) = goLoop (spliceref03_Keys.step r) (.l2 0 (keysOf fun _ => false)) := h1
  rw [h1']
  have key : ∀ (m i : Nat), i + m = r.length → goLoop (spliceref03_Keys.step r) (.l2 (i : Int) (keys ((r.take i).map pr))) = some (keys (r.map pr)) := by
    intro m
    induction m with
    | zero =>
      intro i hi
      obtain rfl : i = r.length := by omega
      rw [loop_eq]
      simp only [spliceref03_Keys.step, spliceref03_Keys.l2]
      rw [if_neg (by omega), take_all (Nat.le_refl _)]
      rfl
    | succ m ih =>
      intro i hi
      have hil : i < r.length := by omega
      rw [loop_eq]
      simp only [spliceref03_Keys.step, spliceref03_Keys.l2]
      rw [if_pos (by omega), if_pos (by omega)]
      simp only [stk]
      have hnext := ih (i + 1) (by omega)
      rw [take_atI (z := spliceref03_Span.z) hil, List.map_append] at hnext
      rw [← hnext]
      by_cases ho : Ok (pr (r.getD (i : Int).toNat spliceref03_Span.z))
      · have ho' := ho
        unfold Ok pr at ho'
        simp only at ho'
        obtain ⟨lo, hlo⟩ : ∃ lo : Nat, (r.getD (i : Int).toNat spliceref03_Span.z).Lo = lo := ⟨(r.getD (i : Int).toNat spliceref03_Span.z).Lo.toNat, by omega⟩
        obtain ⟨m', hm'⟩ : ∃ m' : Nat, (lo : Int) + m' = (r.getD (i : Int).toNat spliceref03_Span.z).Hi := ⟨((r.getD (i : Int).toNat spliceref03_Span.z).Hi - lo).toNat, by omega⟩
        rw [hlo]
        unfold keys
        rw [keys_l3 r i hil hn _ rfl ho m' lo _ hm']
        have e2 : (keysOf fun q => memB (((r.take i).map pr).filter fun x => decide (Ok x)) q || (decide (lo ≤ q) && decide ((q : Int) < (r.getD (i : Int).toNat spliceref03_Span.z).Hi))) = keysOf fun q => memB (((r.take i).map pr ++ List.map pr [r.getD (i : Int).toNat spliceref03_Span.z]).filter fun x => decide (Ok x)) q := keysOf_congr fun q _ => by
          rw [List.filter_append, memB, memB, List.any_append]
          congr 1
          rw [List.map_cons, List.map_nil, List.filter_cons, if_pos (decide_eq_true ho)]
          simp only [List.filter_nil, List.any_cons, List.any_nil, Bool.or_false, pr, hlo]
          congr 1
          exact decide_eq_decide.2 (by omega)
        rw [e2]
      · rw [loop_eq]
        simp only [spliceref03_Keys.step, spliceref03_Keys.l3]
        rw [if_pos (by omega), spliceref03_One_eq, decide_eq_false ho, if_neg (by decide)]
        unfold spliceref03_Keys.j1
        rw [if_neg (by decide), wr1' (by omega)]
        simp only [stk]
        unfold keys
        rw [List.filter_append, List.map_cons, List.map_nil, List.filter_cons, if_neg (by rw [decide_eq_false ho]; decide), List.filter_nil, List.append_nil]
  have h2 := key r.length 0 (by omega)
  exact h2

def setMu : spliceref03_Set.S → Nat
  | .l1 q _ => 3 * (4096 - q.toNat) + 1
  | .l2 q p _ => 3 * (4096 - q.toNat) + (if p < q then 2 else 0)
def setI (f : Nat → Bool) : spliceref03_Set.S → Prop
  | .l1 k out => ∃ q : Nat, k = q ∧ q ≤ 4096 ∧ Canon (out.map pr) ∧ (∀ x ∈ out.map pr, x.2 ≤ q ∧ (x.2 = q → q < 4096 → f q = false)) ∧ (∀ n : Nat, n < q → (mem (out.map pr) n ↔ f n = true)) ∧ out.length ≤ q
  | .l2 k fr out => ∃ p q : Nat, fr = p ∧ k = q ∧ p ≤ q ∧ q ≤ 4096 ∧ p < 4096 ∧ Canon (out.map pr) ∧ (∀ x ∈ out.map pr, x.2 ≤ p ∧ (x.2 = p → f p = false)) ∧ (∀ n : Nat, n < p → (mem (out.map pr) n ↔ f n = true)) ∧ (∀ n : Nat, p ≤ n → n < q → f n = true) ∧ out.length ≤ p
theorem Set_eq (f : Nat → Bool) : ∃ L : List spliceref03_Span, Canon (L.map pr) ∧ (∀ n : Nat, n < 4096 → (mem (L.map pr) n ↔ f n = true)) ∧ spliceref03_Set (keysOf f) = some (if 64 < L.length then ([], 2) else (L, 0)) := by
  have step : ∀ s, setI f s → (∃ s', spliceref03_Set.step (keysOf f) s = some (.inl s') ∧ setI f s' ∧ setMu s' < setMu s) ∨ ∃ r, spliceref03_Set.step (keysOf f) s = some (.inr r) ∧ ∃ L : List spliceref03_Span, Canon (L.map pr) ∧ (∀ n : Nat, n < 4096 → (mem (L.map pr) n ↔ f n = true)) ∧ r = if 64 < L.length then ([], 2) else (L, 0) := by
    intro s hs
    cases s with
    | l1 k out =>
      obtain ⟨q, rfl, hq, hc, he, hm, hl⟩ := hs
      simp only [spliceref03_Set.step, spliceref03_Set.l1, keysOf_length]
      by_cases hq2 : q < 4096
      · left
        refine ⟨.l2 (q : Int) (q : Int) out, by rw [if_pos (by omega)], ⟨q, q, rfl, rfl, Nat.le_refl _, by omega, hq2, hc, fun x hx => ⟨(he x hx).1, fun e => (he x hx).2 e hq2⟩, hm, fun n h1 h2 => by omega, hl⟩, ?_⟩
        simp [setMu]
      · right
        obtain rfl : q = 4096 := by omega
        rw [if_neg (by omega)]
        refine ⟨_, ?_, out, hc, hm, rfl⟩
        by_cases h6 : 64 < out.length
        · rw [if_pos (by omega), if_pos h6]
        · rw [if_neg (by omega), if_neg h6]
    | l2 k fr out =>
      obtain ⟨p, q, rfl, rfl, hpq, hq, hp, hc, he, hm, hon, hl⟩ := hs
      left
      simp only [spliceref03_Set.step, spliceref03_Set.l2, keysOf_length]
      by_cases hf : q < 4096 ∧ f q = true
      · refine ⟨.l2 ((q + 1 : Nat) : Int) (p : Int) out, ?_, ⟨p, q + 1, rfl, rfl, by omega, by omega, hp, hc, he, hm, fun n h1 h2 => ?_, hl⟩, ?_⟩
        · rw [if_pos (by omega), if_pos (by omega), keysOf_getI f hf.1, hf.2]
          unfold spliceref03_Set.j1
          rw [if_pos rfl, wr1' (by omega)]
        · by_cases e : n = q
          · subst e; exact hf.2
          · exact hon n h1 (by omega)
        · simp only [setMu]
          split <;> split <;> omega
      · have hbr : (if (q : Int) < ((4096 : Nat) : Int) then if 0 ≤ (q : Int) ∧ (q : Int) < ((4096 : Nat) : Int) then spliceref03_Set.j1 (q : Int) (p : Int) out ((keysOf f).getD (q : Int).toNat false) else none else spliceref03_Set.j1 (q : Int) (p : Int) out false) = spliceref03_Set.j1 (q : Int) (p : Int) out false := by
          by_cases h4 : q < 4096
          · rw [if_pos (by omega), if_pos (by omega), keysOf_getI f h4]
            have : f q = false := by
              cases h : f q with
              | false => rfl
              | true => exact absurd ⟨h4, h⟩ hf
            rw [this]
          · rw [if_neg (by omega)]
        rw [hbr]
        unfold spliceref03_Set.j1
        rw [if_neg (by simp)]
        by_cases hpq2 : p < q
        · rw [if_pos (by omega), if_pos (by omega)]
          refine ⟨_, rfl, ⟨q, rfl, hq, ?_, ?_, ?_, by simp; omega⟩, by simp [setMu, hpq2]⟩
          · rw [List.map_append]
            refine canon_snoc.2 ⟨hc, by unfold Ok; simp only [pr]; omega, fun y hy => ?_⟩
            have h1 := he y hy
            have h2 := hon p (Nat.le_refl _) hpq2
            simp only [pr]
            rcases Int.lt_or_eq_of_le h1.1 with h | h
            · exact h
            · rw [h1.2 h] at h2; cases h2
          · intro x hx
            rw [List.map_append] at hx
            rcases List.mem_append.1 hx with hx | hx
            · have := (he x hx).1
              exact ⟨by omega, fun e => by omega⟩
            · simp [pr] at hx
              subst hx
              refine ⟨by simp, fun _ h4 => ?_⟩
              cases h : f q with
              | false => rfl
              | true => exact absurd ⟨h4, h⟩ hf
          · intro n hn
            rw [List.map_append, mem_append]
            have e : mem (List.map pr [(⟨(p : Int), (q : Int)⟩ : spliceref03_Span)]) (n : Int) ↔ p ≤ n ∧ n < q := by
              simp only [List.map_cons, List.map_nil, pr, mem_cons, mem_nil, or_false]
              omega
            rw [e]
            by_cases h : n < p
            · rw [hm n h]
              constructor
              · rintro (h1 | h1)
                · exact h1
                · omega
              · exact .inl
            · exact ⟨fun _ => hon n (by omega) hn, fun _ => .inr ⟨by omega, hn⟩⟩
        · obtain rfl : p = q := by omega
          have hfq : f p = false := by
            cases h : f p with
            | false => rfl
            | true => exact absurd ⟨hp, h⟩ hf
          rw [if_neg (by omega), wr1' (by omega)]
          refine ⟨_, rfl, ⟨p + 1, rfl, by omega, hc, fun x hx => ?_, fun n hn => ?_, by omega⟩, ?_⟩
          · have := (he x hx).1
            exact ⟨by omega, fun e => by omega⟩
          · by_cases e : n = p
            · subst e
              rw [hfq]
              simp only [Bool.false_eq_true, iff_false]
              rintro ⟨x, hx, h1, h2⟩
              have := (he x hx).1
              omega
            · exact hm n (by omega)
          · simp only [setMu, Int.lt_irrefl, if_false]
            omega
  obtain ⟨r, h1, L, h2, h3, h4⟩ := loop_to (setI f) setMu _ step (.l1 0 []) ⟨0, rfl, by omega, Canon.nil, fun x hx => by simp at hx, fun n hn => by omega, by simp⟩
  exact ⟨L, h2, h3, by unfold spliceref03_Set; rw [h1, h4]⟩

def ResR (m : Int → Prop) (o : Option (List spliceref03_Span × Int)) : Prop := ∃ L : List spliceref03_Span, Canon (L.map pr) ∧ (∀ k, mem (L.map pr) k ↔ m k) ∧ o = some (if 64 < L.length then ([], 2) else (L, 0))

theorem mem_nat {l : List Sp} (h : Canon l) {m : Int → Prop} (hm : ∀ k, m k → 0 ≤ k ∧ k < 4096) (e : ∀ n : Nat, n < 4096 → (mem l n ↔ m n)) (k : Int) : mem l k ↔ m k := by
  constructor
  · intro h1
    have hb := h.bound h1
    obtain ⟨n, rfl⟩ : ∃ n : Nat, k = n := ⟨k.toNat, by omega⟩
    exact (e n (by omega)).1 h1
  · intro h1
    have hb := hm k h1
    obtain ⟨n, rfl⟩ : ∃ n : Nat, k = n := ⟨k.toNat, by omega⟩
    exact (e n (by omega)).2 h1

theorem set_res {f : Nat → Bool} {m : Int → Prop} (hm : ∀ k, m k → 0 ≤ k ∧ k < 4096) (e : ∀ n : Nat, n < 4096 → (f n = true ↔ m n)) : ResR m (spliceref03_Set (keysOf f)) := by
  obtain ⟨L, h1, h2, h3⟩ := Set_eq f
  exact ⟨L, h1, mem_nat h1 hm fun n hn => (h2 n hn).trans (e n hn), h3⟩

theorem Same_eq (x y : List spliceref03_Span) (hn : x.length ≤ 5000) : ∃ r, spliceref03_Same x y = some r ∧ (r = true ↔ x = y) := by
  unfold spliceref03_Same
  by_cases hl : (x.length : Int) = (y.length : Int)
  · rw [if_pos hl]
    have hl' : x.length = y.length := by omega
    have ext : ∀ (u v : spliceref03_Span), u.Lo = v.Lo → u.Hi = v.Hi → u = v := by
      intro u v h1 h2
      cases u; cases v
      simp only at h1 h2
      rw [h1, h2]
    refine for_post (n := x.length) (fun i (_ : Unit) => spliceref03_Same.S.l1 (i : Int)) (fun i _ => x.take i = y.take i) _ ?_ ?_ 0 () (Nat.zero_le _) rfl
    · intro _ h
      rw [take_all (Nat.le_refl _), take_all (by omega)] at h
      exact ⟨true, by simp [spliceref03_Same.step, spliceref03_Same.l1], by simpa using h⟩
    · intro i _ hi h
      have e1 := take_atI (z := spliceref03_Span.z) hi
      have e2 := take_atI (l := y) (z := spliceref03_Span.z) (i := i) (by omega)
      have hne : x.getD (i : Int).toNat spliceref03_Span.z ≠ y.getD (i : Int).toNat spliceref03_Span.z → (∃ r, (some (.inr false) : Option (spliceref03_Same.S ⊕ Bool)) = some (.inr r) ∧ (r = true ↔ x = y)) := fun hne => ⟨false, rfl, by
        simp only [Bool.false_eq_true, false_iff]
        rintro rfl
        exact hne rfl⟩
      simp only [spliceref03_Same.step, spliceref03_Same.l1]
      rw [if_pos (by omega), if_pos (by omega), if_pos (by omega)]
      generalize x.getD (i : Int).toNat spliceref03_Span.z = X at e1 hne ⊢
      generalize y.getD (i : Int).toNat spliceref03_Span.z = Y at e2 hne ⊢
      by_cases h1 : X.Lo = Y.Lo
      · rw [if_pos h1]
        by_cases h2 : X.Hi = Y.Hi
        · rw [if_pos h2]
          left
          refine ⟨(), by rw [wr1' (by omega)], ?_⟩
          rw [e1, e2, h, ext X Y h1 h2]
        · rw [if_neg h2]
          right
          exact hne fun e => h2 (by rw [e])
      · rw [if_neg h1]
        right
        split <;> exact hne fun e => h1 (by rw [e])
  · rw [if_neg hl]
    refine ⟨false, rfl, ?_⟩
    simp only [Bool.false_eq_true, false_iff]
    rintro rfl
    exact hl rfl

theorem toR_inj {a b : List api_Span} (h : a.map toR = b.map toR) : a = b := by
  apply pa_inj
  rw [← pr_toR, ← pr_toR, h]
theorem ref_Make_eq (a : List api_Span) (ha : a.length ≤ 5000) : (¬ Good a → spliceref03_Make (a.map toR) = some ([], 1)) ∧ (Good a → ResR (fun k => mem (a.map pa) k) (spliceref03_Make (a.map toR))) := by
  have key : ∃ r, spliceref03_Make (a.map toR) = some r ∧ ((¬ Good a → r = ([], 1)) ∧ (Good a → ResR (fun k => mem (a.map pa) k) (some r))) := by
    unfold spliceref03_Make
    refine for_post (n := (a.map toR).length) (fun i (_ : Unit) => spliceref03_Make.S.l1 (i : Int)) (fun i _ => ∀ x ∈ (a.map toR).take i, Ok (pr x)) _ ?_ ?_ 0 () (Nat.zero_le _) (fun x hx => by simp at hx)
    · intro _ h
      rw [take_all (Nat.le_refl _)] at h
      have hg : Good a := fun x hx => h (toR x) (List.mem_map_of_mem hx)
      simp only [spliceref03_Make.step, spliceref03_Make.l1]
      rw [if_neg (by omega), Keys_eq _ (by simpa using ha), Option.bind_some, pr_toR]
      have hr : ResR (fun k => mem (a.map pa) k) (spliceref03_Set (keys (a.map pa))) := by
        unfold keys
        have hf : (a.map pa).filter (fun x => decide (Ok x)) = a.map pa := by
          rw [List.filter_eq_self]
          intro x hx
          obtain ⟨y, hy, rfl⟩ := List.mem_map.1 hx
          exact decide_eq_true (hg y hy)
        rw [hf]
        refine set_res ?_ fun n _ => memB_iff
        rintro k ⟨x, hx, h1, h2⟩
        obtain ⟨y, hy, rfl⟩ := List.mem_map.1 hx
        have := hg y hy
        unfold Sets.Ok at this
        omega
      obtain ⟨L, h1, h2, h3⟩ := hr
      rw [h3, Option.bind_some]
      exact ⟨_, rfl, fun h => absurd hg h, fun _ => ⟨L, h1, h2, rfl⟩⟩
    · intro i _ hi h
      have hil : i < a.length := by simpa using hi
      have ht := take_atI (l := a.map toR) (z := spliceref03_Span.z) hi
      simp only [spliceref03_Make.step, spliceref03_Make.l1]
      rw [if_pos (by omega), if_pos (by omega), spliceref03_One_eq]
      have hin : (a.map toR).getD (i : Int).toNat spliceref03_Span.z ∈ a.map toR := by
        have := drop_atI (l := a.map toR) (z := spliceref03_Span.z) hi
        exact List.mem_of_mem_drop (i := i) (by rw [this]; exact List.mem_cons_self ..)
      generalize (a.map toR).getD (i : Int).toNat spliceref03_Span.z = X at ht hin ⊢
      by_cases ho : Ok (pr X)
      · rw [decide_eq_true ho, if_pos rfl]
        left
        refine ⟨(), by rw [wr1' (by simp at hi; omega)], fun x hx => ?_⟩
        rw [ht] at hx
        rcases List.mem_append.1 hx with hx | hx
        · exact h x hx
        · simp at hx; subst hx; exact ho
      · rw [decide_eq_false ho, if_neg (by decide)]
        right
        refine ⟨_, rfl, fun _ => rfl, fun hg => ?_⟩
        obtain ⟨y, hy, rfl⟩ := List.mem_map.1 hin
        exact absurd (hg y hy) ho
  obtain ⟨r, h1, h2, h3⟩ := key
  exact ⟨fun h => by rw [h1, h2 h], fun h => by rw [h1]; exact h3 h⟩

theorem size_append (l : List Sp) (x : Sp) : size (l ++ [x]) = size l + (x.2 - x.1) := by
  induction l with
  | nil => simp [size]
  | cons y l ih =>
    simp only [size, List.cons_append, List.foldr_cons] at *
    rw [ih]
    omega
theorem set_good {a : List api_Span} (h : Set' a) : Good a := fun x hx => h.1.ok (pa x) (List.mem_map_of_mem hx)
theorem size_bound {l : List Sp} (h : ∀ x ∈ l, Sets.Ok x) : 0 ≤ size l ∧ size l ≤ 4096 * l.length := by
  induction l with
  | nil => simp [size]
  | cons y l ih =>
    have := ih fun x hx => h x (List.mem_cons_of_mem _ hx)
    have oy := h y (List.mem_cons_self ..)
    unfold Sets.Ok at oy
    simp only [size, List.foldr_cons, List.length_cons] at *
    omega
theorem count_eq {a : List api_Span} (h : Set' a) : span_Count a = some (size (a.map pa)) := by
  have l1 := h.2
  unfold span_Count
  rw [chkT (by omega) h, Option.bind_some, if_pos rfl]
  obtain ⟨r, h1, h2⟩ : ∃ r, goLoop (span_Count.step a) (.l1 0 0) = some r ∧ r = size (a.map pa) := by
    refine for_post (n := a.length) (fun i (x : Int) => span_Count.S.l1 x (i : Int)) (fun i x => x = size ((a.take i).map pa)) _ ?_ ?_ 0 0 (Nat.zero_le _) rfl
    · intro x hx
      rw [take_all (Nat.le_refl _)] at hx
      exact ⟨x, by simp [span_Count.step, span_Count.l1], hx⟩
    · rintro i x hi rfl
      left
      have ht := take_atI (l := a) (z := api_Span.z) hi
      have hok : ∀ x ∈ (a.take i).map pa, Sets.Ok x := fun x hx => by
        obtain ⟨y, hy, rfl⟩ := List.mem_map.1 hx
        exact set_good h y (List.mem_of_mem_take hy)
      have hb := size_bound hok
      have hin : a.getD (i : Int).toNat api_Span.z ∈ a := by
        have := drop_atI (l := a) (z := api_Span.z) hi
        exact List.mem_of_mem_drop (i := i) (by rw [this]; exact List.mem_cons_self ..)
      have ho := set_good h _ hin
      simp only [span_Count.step, span_Count.l1]
      rw [if_pos (by omega), if_pos (by omega), wr1' (by omega)]
      generalize a.getD (i : Int).toNat api_Span.z = X at ht ho ⊢
      unfold Sets.Ok pa at ho
      simp only at ho
      have hlen : ((a.take i).map pa).length = i := by simp [Nat.min_eq_left (Nat.le_of_lt hi)]
      rw [hlen] at hb
      refine ⟨size ((a.take i).map pa) + (X.Hi - X.Lo), ?_, ?_⟩
      · simp only [bnd]
        rw [wr (n := X.Hi - X.Lo) (by omega), wr (by omega)]
      · rw [ht, List.map_append, List.map_cons, List.map_nil, size_append]
        rfl
  rw [h1, h2]
end Go.SyP
