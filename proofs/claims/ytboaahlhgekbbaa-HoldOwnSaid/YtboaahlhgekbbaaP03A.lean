/- Sets of keys as lists of spans: the plain mathematics. No program in sight. -/
set_option linter.unusedVariables false
namespace Go.SyP.Sets

abbrev Sp := Int × Int
def Ok (x : Sp) : Prop := 0 ≤ x.1 ∧ x.1 < x.2 ∧ x.2 ≤ 4096
instance (x : Sp) : Decidable (Ok x) := inferInstanceAs (Decidable (_ ∧ _ ∧ _))
def mem (l : List Sp) (k : Int) : Prop := ∃ x ∈ l, x.1 ≤ k ∧ k < x.2
structure Canon (l : List Sp) : Prop where
  ok : ∀ x ∈ l, Ok x
  apart : l.Pairwise fun x y => x.2 < y.1

theorem mem_nil {k : Int} : ¬ mem [] k := by rintro ⟨x, h, _⟩; cases h
theorem mem_cons {x : Sp} {l : List Sp} {k : Int} : mem (x :: l) k ↔ (x.1 ≤ k ∧ k < x.2) ∨ mem l k := by
  constructor
  · rintro ⟨y, hy, h⟩
    rcases List.mem_cons.1 hy with rfl | hy
    · exact .inl h
    · exact .inr ⟨y, hy, h⟩
  · rintro (h | ⟨y, hy, h⟩)
    · exact ⟨x, List.mem_cons_self .., h⟩
    · exact ⟨y, List.mem_cons_of_mem _ hy, h⟩
theorem mem_append {l m : List Sp} {k : Int} : mem (l ++ m) k ↔ mem l k ∨ mem m k := by
  induction l with
  | nil => simp [mem_nil]
  | cons x l ih => rw [List.cons_append, mem_cons, mem_cons, ih, or_assoc]
theorem mem_perm {l m : List Sp} (h : l.Perm m) {k : Int} : mem l k ↔ mem m k :=
  ⟨fun ⟨x, a, b⟩ => ⟨x, h.mem_iff.1 a, b⟩, fun ⟨x, a, b⟩ => ⟨x, h.mem_iff.2 a, b⟩⟩

theorem Canon.nil : Canon [] := ⟨fun x h => by simp at h, .nil⟩
theorem Canon.tail {x : Sp} {l : List Sp} (h : Canon (x :: l)) : Canon l := ⟨fun y hy => h.ok y (List.mem_cons_of_mem _ hy), (List.pairwise_cons.1 h.apart).2⟩
theorem Canon.head {x : Sp} {l : List Sp} (h : Canon (x :: l)) : ∀ y ∈ l, x.2 < y.1 := (List.pairwise_cons.1 h.apart).1
theorem Canon.bound {l : List Sp} (h : Canon l) {k : Int} (m : mem l k) : 0 ≤ k ∧ k < 4096 := by
  obtain ⟨x, hx, h1, h2⟩ := m
  have := h.ok x hx
  unfold Ok at this
  omega
theorem Canon.above {x : Sp} {l : List Sp} (h : Canon (x :: l)) {k : Int} (m : mem l k) : x.2 < k := by
  obtain ⟨y, hy, h1, h2⟩ := m
  have := h.head y hy
  omega

theorem Canon.unique : ∀ {l m : List Sp}, Canon l → Canon m → (∀ k, mem l k ↔ mem m k) → l = m
  | [], [], _, _, _ => rfl
  | [], y :: m, _, hm, e => by
    have := hm.ok y (List.mem_cons_self ..)
    unfold Ok at this
    exact absurd ((e y.1).2 (mem_cons.2 (.inl ⟨by omega, by omega⟩))) mem_nil
  | x :: l, [], hl, _, e => by
    have := hl.ok x (List.mem_cons_self ..)
    unfold Ok at this
    exact absurd ((e x.1).1 (mem_cons.2 (.inl ⟨by omega, by omega⟩))) mem_nil
  | x :: l, y :: m, hl, hm, e => by
    have ox := hl.ok x (List.mem_cons_self ..)
    have oy := hm.ok y (List.mem_cons_self ..)
    unfold Ok at ox oy
    have e1 : x.1 = y.1 := by
      have a := (e x.1).1 (mem_cons.2 (.inl ⟨by omega, by omega⟩))
      have b := (e y.1).2 (mem_cons.2 (.inl ⟨by omega, by omega⟩))
      have a' : y.1 ≤ x.1 := by
        rcases mem_cons.1 a with a | a
        · exact a.1
        · have := hm.above a; omega
      have b' : x.1 ≤ y.1 := by
        rcases mem_cons.1 b with a | a
        · exact a.1
        · have := hl.above a; omega
      omega
    have e2 : x.2 = y.2 := by
      apply Classical.byContradiction
      intro hne
      rcases Int.lt_or_gt_of_ne hne with h | h
      · have := (e x.2).2 (mem_cons.2 (.inl ⟨by omega, by omega⟩))
        rcases mem_cons.1 this with a | a
        · omega
        · have := hl.above a; omega
      · have := (e y.2).1 (mem_cons.2 (.inl ⟨by omega, by omega⟩))
        rcases mem_cons.1 this with a | a
        · omega
        · have := hm.above a; omega
    have ex : x = y := Prod.ext e1 e2
    subst ex
    rw [Canon.unique hl.tail hm.tail fun k => ?_]
    have := e k
    rw [mem_cons, mem_cons] at this
    constructor
    · intro h
      have h2 := hl.above h
      rcases this.1 (.inr h) with h3 | h3
      · omega
      · exact h3
    · intro h
      have h2 := hm.above h
      rcases this.2 (.inr h) with h3 | h3
      · omega
      · exact h3

/-! ### Keys that are on -/
def keysOf (m : Nat → Bool) : List Bool := (List.range 4096).map m
theorem keysOf_length (m : Nat → Bool) : (keysOf m).length = 4096 := by simp [keysOf]
theorem keysOf_get (m : Nat → Bool) {k : Nat} (h : k < 4096) : (keysOf m).getD k false = m k := by simp [keysOf, h]
theorem keysOf_congr {m m' : Nat → Bool} (h : ∀ k, k < 4096 → m k = m' k) : keysOf m = keysOf m' := by
  unfold keysOf
  exact List.map_congr_left fun k hk => h k (by simpa using hk)
theorem keysOf_set (m : Nat → Bool) {j : Nat} (h : j < 4096) : (keysOf m).set j true = keysOf fun k => m k || k == j := by
  apply List.ext_getElem?
  intro i
  unfold keysOf
  rw [List.getElem?_set]
  by_cases e : j = i
  · subst e; simp [h]
  · simp only [e, if_false, List.getElem?_map]
    cases hi : (List.range 4096)[i]? with
    | none => rfl
    | some v =>
      have := (List.getElem?_eq_some_iff.1 hi).2
      simp at this
      subst this
      have : (i == j) = false := by simpa using fun e' => e (Eq.symm e')
      simp [this]

def memB (l : List Sp) (k : Int) : Bool := l.any fun x => decide (x.1 ≤ k) && decide (k < x.2)
theorem memB_iff {l : List Sp} {k : Int} : memB l k = true ↔ mem l k := by
  simp [memB, mem]
/-- The keys of those spans that may be. -/
def keys (l : List Sp) : List Bool := keysOf fun k => memB (l.filter fun x => decide (Ok x)) k

/-! ### What two sets have both -/
def cut (x y : Sp) : Option Sp := if max x.1 y.1 < min x.2 y.2 then some (max x.1 y.1, min x.2 y.2) else none
def both (a b : List Sp) : List Sp := a.flatMap fun x => b.filterMap fun y => cut x y
theorem cut_some {x y z : Sp} (h : cut x y = some z) : z = (max x.1 y.1, min x.2 y.2) ∧ max x.1 y.1 < min x.2 y.2 := by
  unfold cut at h
  split at h
  · injection h with h
    exact ⟨h.symm, by assumption⟩
  · cases h
theorem mem_both {a b : List Sp} {k : Int} : mem (both a b) k ↔ mem a k ∧ mem b k := by
  constructor
  · rintro ⟨z, hz, h1, h2⟩
    obtain ⟨x, hx, hz⟩ := List.mem_flatMap.1 hz
    obtain ⟨y, hy, hz⟩ := List.mem_filterMap.1 hz
    obtain ⟨rfl, h3⟩ := cut_some hz
    simp only at h1 h2
    exact ⟨⟨x, hx, by omega, by omega⟩, ⟨y, hy, by omega, by omega⟩⟩
  · rintro ⟨⟨x, hx, h1, h2⟩, ⟨y, hy, h3, h4⟩⟩
    refine ⟨(max x.1 y.1, min x.2 y.2), List.mem_flatMap.2 ⟨x, hx, List.mem_filterMap.2 ⟨y, hy, ?_⟩⟩, by simp only; omega, by simp only; omega⟩
    unfold cut
    rw [if_pos (by omega)]
theorem Canon.both {a b : List Sp} (ha : Canon a) (hb : Canon b) : Canon (both a b) := by
  constructor
  · intro z hz
    obtain ⟨x, hx, hz⟩ := List.mem_flatMap.1 hz
    obtain ⟨y, hy, hz⟩ := List.mem_filterMap.1 hz
    obtain ⟨rfl, h3⟩ := cut_some hz
    have := ha.ok x hx
    have := hb.ok y hy
    unfold Ok at *
    simp only
    omega
  · unfold Sets.both
    rw [List.pairwise_flatMap]
    refine ⟨fun x hx => ?_, ha.apart.imp fun {x x'} hxx u hu v hv => ?_⟩
    · rw [List.pairwise_filterMap]
      refine hb.apart.imp fun {y y'} hyy u hu v hv => ?_
      obtain ⟨rfl, h3⟩ := cut_some hu
      obtain ⟨rfl, h4⟩ := cut_some hv
      simp only
      omega
    · obtain ⟨y, hy, hu⟩ := List.mem_filterMap.1 hu
      obtain ⟨y', hy', hv⟩ := List.mem_filterMap.1 hv
      obtain ⟨rfl, h3⟩ := cut_some hu
      obtain ⟨rfl, h4⟩ := cut_some hv
      simp only
      omega
theorem both_length (a b : List Sp) : (both a b).length ≤ a.length * b.length := by
  induction a with
  | nil => simp [both]
  | cons x a ih =>
    unfold both at *
    rw [List.flatMap_cons, List.length_append, List.length_cons, Nat.add_mul, Nat.one_mul]
    have := List.length_filterMap_le (fun y => cut x y) b
    omega

/-! ### The keys that a set has not -/
def beyond (at_ : Int) : List Sp → List Sp
  | [] => if at_ < 4096 then [(at_, 4096)] else []
  | s :: l => (if at_ < s.1 then [(at_, s.1)] else []) ++ beyond s.2 l
theorem beyond_low : ∀ {l : List Sp} {p : Int}, Canon l → (∀ x ∈ l, p ≤ x.1) → ∀ y ∈ beyond p l, p ≤ y.1
  | [], p, _, _, y, hy => by
    unfold beyond at hy
    split at hy <;> simp at hy
    rw [hy]; simp
  | s :: l, p, h, hp, y, hy => by
    unfold beyond at hy
    rcases List.mem_append.1 hy with hy | hy
    · split at hy <;> simp at hy
      rw [hy]; simp
    · have h1 := beyond_low h.tail (p := s.2) (fun x hx => by have := h.head x hx; omega) y hy
      have h2 := hp s (List.mem_cons_self ..)
      have h3 := h.ok s (List.mem_cons_self ..)
      unfold Ok at h3
      omega
theorem mem_beyond : ∀ {l : List Sp} {p : Int}, Canon l → 0 ≤ p → p ≤ 4096 → (∀ x ∈ l, p ≤ x.1) → ∀ k, mem (beyond p l) k ↔ (p ≤ k ∧ k < 4096 ∧ ¬ mem l k)
  | [], p, _, h0, h1, _, k => by
    unfold beyond
    split
    · rw [mem_cons]
      simp only [mem_nil, or_false, not_false_eq_true, and_true]
    · simp only [mem_nil, not_false_eq_true, and_true, false_iff]
      omega
  | s :: l, p, h, h0, h1, hp, k => by
    have h2 := hp s (List.mem_cons_self ..)
    have h3 := h.ok s (List.mem_cons_self ..)
    unfold Ok at h3
    unfold beyond
    rw [mem_append, mem_beyond h.tail (by omega) (by omega) (fun x hx => by have := h.head x hx; omega), mem_cons]
    have e : mem (if p < s.1 then [(p, s.1)] else []) k ↔ (p ≤ k ∧ k < s.1) := by
      split
      · rw [mem_cons]; simp only [mem_nil, or_false]
      · simp only [mem_nil, false_iff]; omega
    rw [e]
    constructor
    · rintro (h4 | ⟨h4, h5, h6⟩)
      · refine ⟨h4.1, by omega, ?_⟩
        rintro (h7 | h7)
        · omega
        · have := h.above h7; omega
      · refine ⟨by omega, h5, ?_⟩
        rintro (h7 | h7)
        · omega
        · exact h6 h7
    · rintro ⟨h4, h5, h6⟩
      by_cases h7 : k < s.1
      · exact .inl ⟨h4, h7⟩
      · refine .inr ⟨?_, h5, fun h8 => h6 (.inr h8)⟩
        apply Classical.byContradiction
        intro h8
        exact h6 (.inl ⟨by omega, by omega⟩)
theorem Canon.beyond : ∀ {l : List Sp} {p : Int}, Canon l → 0 ≤ p → p ≤ 4096 → (∀ x ∈ l, p ≤ x.1) → Canon (beyond p l)
  | [], p, _, h0, h1, _ => by
    unfold Sets.beyond
    split
    · exact ⟨fun x hx => by simp at hx; subst hx; unfold Ok; simp only; omega, by simp⟩
    · exact .nil
  | s :: l, p, h, h0, h1, hp => by
    have h2 := hp s (List.mem_cons_self ..)
    have h3 := h.ok s (List.mem_cons_self ..)
    unfold Ok at h3
    have ht : ∀ x ∈ l, s.2 ≤ x.1 := fun x hx => by have := h.head x hx; omega
    have ih := Canon.beyond h.tail (p := s.2) (by omega) (by omega) ht
    have hlow := beyond_low h.tail (p := s.2) ht
    unfold Sets.beyond
    split
    · refine ⟨fun x hx => ?_, ?_⟩
      · rcases List.mem_append.1 hx with hx | hx
        · simp at hx; subst hx; unfold Ok; simp only; omega
        · exact ih.ok x hx
      · rw [List.singleton_append, List.pairwise_cons]
        exact ⟨fun y hy => by have := hlow y hy; simp only; omega, ih.apart⟩
    · simpa using ih
theorem beyond_length : ∀ (l : List Sp) (p : Int), (beyond p l).length ≤ l.length + 1
  | [], p => by unfold beyond; split <;> simp
  | s :: l, p => by
    unfold beyond
    have := beyond_length l s.2
    split <;> simp <;> omega

/-! ### Counting -/
def size (l : List Sp) : Int := l.foldr (fun x n => x.2 - x.1 + n) 0
def count (f : Nat → Bool) (n : Nat) : Nat := ((List.range n).filter f).length
theorem count_succ (f : Nat → Bool) (n : Nat) : count f (n + 1) = count f n + (if f n then 1 else 0) := by
  unfold count
  rw [List.range_succ, List.filter_append, List.length_append]
  cases h : f n <;> simp [h]
theorem count_congr {f g : Nat → Bool} : ∀ {n : Nat}, (∀ k, k < n → f k = g k) → count f n = count g n
  | 0, _ => rfl
  | n + 1, h => by rw [count_succ, count_succ, count_congr fun k hk => h k (by omega), h n (by omega)]
theorem count_or {f g : Nat → Bool} : ∀ {n : Nat}, (∀ k, k < n → ¬ (f k = true ∧ g k = true)) → count (fun k => f k || g k) n = count f n + count g n
  | 0, _ => rfl
  | n + 1, h => by
    rw [count_succ, count_succ, count_succ, count_or fun k hk => h k (by omega)]
    have := h n (by omega)
    cases h1 : f n <;> cases h2 : g n <;> simp_all <;> omega
theorem count_and_or {f g : Nat → Bool} : ∀ {n : Nat}, count (fun k => f k || g k) n + count (fun k => f k && g k) n = count f n + count g n
  | 0 => rfl
  | n + 1 => by
    rw [count_succ, count_succ, count_succ, count_succ]
    have := count_and_or (f := f) (g := g) (n := n)
    cases h1 : f n <;> cases h2 : g n <;> simp_all <;> omega
theorem count_span (lo hi : Nat) (h : lo ≤ hi) : ∀ n : Nat, hi ≤ n → count (fun k => decide (lo ≤ k) && decide (k < hi)) n = hi - lo := by
  have low : ∀ n, n ≤ lo → count (fun k => decide (lo ≤ k) && decide (k < hi)) n = 0 := by
    intro n
    induction n with
    | zero => intro _; rfl
    | succ n ih =>
      intro hn
      rw [count_succ, ih (by omega)]
      simp
      omega
  have mid : ∀ m, lo + m ≤ hi → count (fun k => decide (lo ≤ k) && decide (k < hi)) (lo + m) = m := by
    intro m
    induction m with
    | zero => intro _; exact low lo (Nat.le_refl _)
    | succ m ih =>
      intro hm
      rw [← Nat.add_assoc, count_succ, ih (by omega)]
      have : (decide (lo ≤ lo + m) && decide (lo + m < hi)) = true := by simp; omega
      rw [this]
      simp
  intro n hn
  obtain ⟨m, rfl⟩ : ∃ m, n = hi + m := ⟨n - hi, by omega⟩
  induction m with
  | zero => have := mid (hi - lo) (by omega); rw [show lo + (hi - lo) = hi by omega] at this; exact this
  | succ m ih =>
    rw [← Nat.add_assoc, count_succ, ih (by omega)]
    have : (decide (lo ≤ hi + m) && decide (hi + m < hi)) = false := by simp
    rw [this]
    simp
theorem count_size : ∀ {l : List Sp}, Canon l → (count (fun k => memB l k) 4096 : Int) = size l
  | [], _ => by
    have : ∀ n, count (fun k => memB [] k) n = 0 := by
      intro n
      induction n with
      | zero => rfl
      | succ n ih => rw [count_succ, ih]; simp [memB]
    rw [this]; rfl
  | x :: l, h => by
    have ox := h.ok x (List.mem_cons_self ..)
    unfold Ok at ox
    have e : ∀ k : Nat, memB (x :: l) k = ((decide (x.1.toNat ≤ k) && decide (k < x.2.toNat)) || memB l k) := by
      intro k
      have a1 : decide (x.1 ≤ (k : Int)) = decide (x.1.toNat ≤ k) := decide_eq_decide.2 (by omega)
      have a2 : decide ((k : Int) < x.2) = decide (k < x.2.toNat) := decide_eq_decide.2 (by omega)
      simp only [memB, List.any_cons, a1, a2]
    rw [count_congr (g := fun k => (decide (x.1.toNat ≤ k) && decide (k < x.2.toNat)) || memB l k) fun k _ => e k, count_or, count_span _ _ (by omega) _ (by omega)]
    · have := count_size h.tail
      simp only [size, List.foldr_cons] at *
      omega
    · intro k _
      rintro ⟨h1, h2⟩
      have := h.above (memB_iff.1 h2)
      simp only [Bool.and_eq_true, decide_eq_true_eq] at h1
      omega
end Go.SyP.Sets
