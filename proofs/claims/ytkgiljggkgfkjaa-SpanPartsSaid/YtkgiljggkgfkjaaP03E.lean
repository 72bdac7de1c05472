/- What the functions on sets answer, and the worked example. -/
import Derived.Test.YtkgiljggkgfkjaaP03D
set_option linter.unusedVariables false
set_option linter.unusedSimpArgs false
namespace Go.SyP
open Go Go.Sy Sets Go.Sort Go.Proofs

theorem res_cases {m : Int → Prop} {o : Option (List api_Span × Int)} (h : Res m o) : (∃ L, Set' L ∧ (∀ k, mem (L.map pa) k ↔ m k) ∧ o = some (L, 0)) ∨ o = some ([], 2) := by
  obtain ⟨L, h1, h2, h3⟩ := h
  by_cases h64 : 64 < L.length
  · rw [if_pos h64] at h3
    exact .inr h3
  · rw [if_neg h64] at h3
    exact .inl ⟨L, ⟨h1, by omega⟩, h2, h3⟩
theorem res_same {m m' : Int → Prop} {o o' : Option (List api_Span × Int)} (h : Res m o) (h' : Res m' o') (e : ∀ k, m k ↔ m' k) : o = o' := by
  obtain ⟨L, h1, h2, h3⟩ := h
  obtain ⟨L', h1', h2', h3'⟩ := h'
  have eq : L = L' := pa_inj (Canon.unique h1 h1' fun k => (h2 k).trans ((e k).trans (h2' k).symm))
  rw [h3, h3', eq]
theorem set_same {a b : List api_Span} (ha : Set' a) (hb : Set' b) (e : ∀ k, mem (a.map pa) k ↔ mem (b.map pa) k) : a = b := pa_inj (Canon.unique ha.1 hb.1 e)
/-- An answer that is known to be a set is that set. -/
theorem res_set {m : Int → Prop} {o : Option (List api_Span × Int)} {a : List api_Span} (h : Res m o) (ha : Set' a) (e : ∀ k, m k ↔ mem (a.map pa) k) : o = some (a, 0) := by
  obtain ⟨L, h1, h2, h3⟩ := h
  have eq : L = a := pa_inj (Canon.unique h1 ha.1 fun k => (h2 k).trans (e k))
  rw [h3, eq, if_neg (by have := ha.2; omega)]

theorem nil_set : Set' [] := ⟨Canon.nil, by simp⟩

theorem chk (a : List api_Span) (ha : a.length ≤ 5000) : ∃ r, span_Check a = some r ∧ (r = true ↔ Set' a) := by
  have h := span_Check_eq a (by omega)
  exact h
theorem chkR (a : List api_Span) (ha : a.length ≤ 5000) : ∃ r, spliceref03_Check (a.map toR) = some r ∧ (r = true ↔ Set' a) := by
  have h := spliceref03_Check_eq (a.map toR) (by simp; omega)
  rw [pr_toR, List.length_map] at h
  exact h
theorem chkT {a : List api_Span} (ha : a.length ≤ 5000) (h : Set' a) : span_Check a = some true := by
  obtain ⟨r, h1, h2⟩ := chk a ha
  rw [h1, h2.2 h]
theorem chkF {a : List api_Span} (ha : a.length ≤ 5000) (h : ¬ Set' a) : span_Check a = some false := by
  obtain ⟨r, h1, h2⟩ := chk a ha
  cases r with
  | false => exact h1
  | true => exact absurd (h2.1 rfl) h
theorem chkRT {a : List api_Span} (ha : a.length ≤ 5000) (h : Set' a) : spliceref03_Check (a.map toR) = some true := by
  obtain ⟨r, h1, h2⟩ := chkR a ha
  rw [h1, h2.2 h]
theorem chkRF {a : List api_Span} (ha : a.length ≤ 5000) (h : ¬ Set' a) : spliceref03_Check (a.map toR) = some false := by
  obtain ⟨r, h1, h2⟩ := chkR a ha
  cases r with
  | false => exact h1
  | true => exact absurd (h2.1 rfl) h

theorem limited_res {L : List api_Span} {m : Int → Prop} (h1 : Canon (L.map pa)) (h2 : ∀ k, mem (L.map pa) k ↔ m k) : Res m (bnd (span_limited L) fun v => some (v.1, v.2)) := by
  refine ⟨L, h1, h2, ?_⟩
  simp only [bnd, span_limited]
  by_cases h64 : 64 < L.length
  · rw [if_pos (by omega), if_pos h64]
  · rw [if_neg (by omega), if_neg h64]

theorem meet_bad {a b : List api_Span} (ha : a.length ≤ 5000) (hb : b.length ≤ 5000) (h : ¬ (Set' a ∧ Set' b)) : span_Meet a b = some ([], 1) := by
  unfold span_Meet
  by_cases h1 : Set' a
  · have h2 : ¬ Set' b := fun h2 => h ⟨h1, h2⟩
    rw [chkT ha h1, Option.bind_some, if_pos rfl, chkF hb h2, Option.bind_some]
    rfl
  · rw [chkF ha h1, Option.bind_some, if_neg (by decide)]
    rfl
theorem meet_good {a b : List api_Span} (h1 : Set' a) (h2 : Set' b) : Res (fun k => mem (a.map pa) k ∧ mem (b.map pa) k) (span_Meet a b) := by
  have l1 := h1.2
  have l2 := h2.2
  unfold span_Meet
  rw [chkT (by omega) h1, Option.bind_some, if_pos rfl, chkT (by omega) h2, Option.bind_some]
  obtain ⟨r, e1, e2⟩ := both_eq a b (by omega) (by omega)
  show Res _ (span_Meet.j1 a b false)
  unfold span_Meet.j1
  rw [if_neg (by decide), e1, Option.bind_some]
  exact limited_res (by rw [e2]; exact h1.1.both h2.1) fun k => by rw [e2]; exact mem_both
theorem beyond_set {b : List api_Span} (h2 : Set' b) : ∃ r, span_beyond b = some r ∧ Canon (r.map pa) ∧ r.length ≤ 65 ∧ ∀ k, mem (r.map pa) k ↔ (0 ≤ k ∧ k < 4096 ∧ ¬ mem (b.map pa) k) := by
  have l2 := h2.2
  obtain ⟨r, e1, e2⟩ := beyond_eq b (by omega)
  have hlow : ∀ x ∈ b.map pa, (0 : Int) ≤ x.1 := fun x hx => (h2.1.ok x hx).1
  refine ⟨r, e1, by rw [e2]; exact h2.1.beyond (by omega) (by omega) hlow, ?_, fun k => by rw [e2]; exact mem_beyond h2.1 (by omega) (by omega) hlow k⟩
  have := beyond_length (b.map pa) 0
  rw [← e2] at this
  simp at this
  omega
theorem less_bad {a b : List api_Span} (ha : a.length ≤ 5000) (hb : b.length ≤ 5000) (h : ¬ (Set' a ∧ Set' b)) : span_Less a b = some ([], 1) := by
  unfold span_Less
  by_cases h1 : Set' a
  · have h2 : ¬ Set' b := fun h2 => h ⟨h1, h2⟩
    rw [chkT ha h1, Option.bind_some, if_pos rfl, chkF hb h2, Option.bind_some]
    rfl
  · rw [chkF ha h1, Option.bind_some, if_neg (by decide)]
    rfl
theorem less_good {a b : List api_Span} (h1 : Set' a) (h2 : Set' b) : Res (fun k => mem (a.map pa) k ∧ ¬ mem (b.map pa) k) (span_Less a b) := by
  have l1 := h1.2
  have l2 := h2.2
  unfold span_Less
  rw [chkT (by omega) h1, Option.bind_some, if_pos rfl, chkT (by omega) h2, Option.bind_some]
  obtain ⟨c, c1, c2, c3, c4⟩ := beyond_set h2
  obtain ⟨r, e1, e2⟩ := both_eq a c (by omega) (by omega)
  show Res _ (span_Less.j1 a b false)
  unfold span_Less.j1
  rw [if_neg (by decide), c1, Option.bind_some, e1, Option.bind_some]
  refine limited_res (by rw [e2]; exact h1.1.both c2) fun k => ?_
  rw [e2, mem_both, c4]
  constructor
  · rintro ⟨p, q⟩; exact ⟨p, q.2.2⟩
  · rintro ⟨p, q⟩
    have := h1.1.bound p
    exact ⟨p, this.1, this.2, q⟩
theorem join_bad {a b : List api_Span} (ha : a.length ≤ 5000) (hb : b.length ≤ 5000) (h : ¬ (Set' a ∧ Set' b)) : span_Join a b = some ([], 1) := by
  unfold span_Join
  by_cases h1 : Set' a
  · have h2 : ¬ Set' b := fun h2 => h ⟨h1, h2⟩
    rw [chkT ha h1, Option.bind_some, if_pos rfl, chkF hb h2, Option.bind_some]
    rfl
  · rw [chkF ha h1, Option.bind_some, if_neg (by decide)]
    rfl
theorem set_good {a : List api_Span} (h : Set' a) : Good a := fun x hx => h.1.ok (pa x) (List.mem_map_of_mem hx)
theorem join_good {a b : List api_Span} (h1 : Set' a) (h2 : Set' b) : Res (fun k => mem (a.map pa) k ∨ mem (b.map pa) k) (span_Join a b) := by
  have l1 := h1.2
  have l2 := h2.2
  unfold span_Join
  rw [chkT (by omega) h1, Option.bind_some, if_pos rfl, chkT (by omega) h2, Option.bind_some]
  show Res _ (span_Join.j1 a b false)
  unfold span_Join.j1
  rw [if_neg (by decide), concat_eq a b (by omega) (by omega), Option.bind_some]
  have hg : Good (a ++ b) := fun x hx => by
    rcases List.mem_append.1 hx with hx | hx
    · exact set_good h1 x hx
    · exact set_good h2 x hx
  obtain ⟨L, e1, e2, e3⟩ := span_Make_good (a := a ++ b) (by simp; omega) hg
  rw [e3]
  exact ⟨L, e1, fun k => by have := e2 k; simp only [List.map_append, mem_append] at this; exact this, rfl⟩

theorem within_eq (a b : List api_Span) (ha : a.length ≤ 5000) (hb : b.length ≤ 5000) : ∃ v, span_Within a b = some v ∧ (v = true ↔ Set' a ∧ Set' b ∧ ∀ k, mem (a.map pa) k → mem (b.map pa) k) := by
  unfold span_Within
  by_cases h1 : Set' a
  · rw [chkT ha h1, Option.bind_some, if_pos rfl]
    by_cases h2 : Set' b
    · have l1 := h1.2
      have l2 := h2.2
      rw [chkT hb h2, Option.bind_some, if_pos rfl]
      obtain ⟨c, c1, c2, c3, c4⟩ := beyond_set h2
      obtain ⟨r, e1, e2⟩ := both_eq a c (by omega) (by omega)
      rw [c1, Option.bind_some, e1, Option.bind_some]
      refine ⟨_, rfl, ?_⟩
      have hm : ∀ k, mem (r.map pa) k ↔ mem (a.map pa) k ∧ ¬ mem (b.map pa) k := fun k => by
        rw [e2, mem_both, c4]
        constructor
        · rintro ⟨p, q⟩; exact ⟨p, q.2.2⟩
        · rintro ⟨p, q⟩
          have := h1.1.bound p
          exact ⟨p, this.1, this.2, q⟩
      have hr : Canon (r.map pa) := by rw [e2]; exact h1.1.both c2
      simp only [h1, h2, true_and, beq_iff_eq]
      constructor
      · intro h k hk
        apply Classical.byContradiction
        intro hn
        have : mem (r.map pa) k := (hm k).2 ⟨hk, hn⟩
        have hr0 : r = [] := List.length_eq_zero_iff.1 (by omega)
        rw [hr0] at this
        exact mem_nil this
      · intro h
        cases r with
        | nil => rfl
        | cons x r =>
          have ox := hr.ok (pa x) (by simp)
          unfold Sets.Ok at ox
          have := (hm (pa x).1).1 (mem_cons.2 (.inl ⟨by omega, by omega⟩))
          exact absurd (h _ this.1) this.2
    · rw [chkF hb h2, Option.bind_some, if_neg (by decide)]
      exact ⟨false, rfl, by simp [h2]⟩
  · rw [chkF ha h1, Option.bind_some, if_neg (by decide)]
    exact ⟨false, rfl, by simp [h1]⟩
theorem touch_eq (a b : List api_Span) (ha : a.length ≤ 5000) (hb : b.length ≤ 5000) : ∃ v, span_Touch a b = some v ∧ (v = true ↔ Set' a ∧ Set' b ∧ ∃ k, mem (a.map pa) k ∧ mem (b.map pa) k) := by
  unfold span_Touch
  by_cases h1 : Set' a
  · rw [chkT ha h1, Option.bind_some, if_pos rfl]
    by_cases h2 : Set' b
    · have l1 := h1.2
      have l2 := h2.2
      rw [chkT hb h2, Option.bind_some, if_pos rfl]
      obtain ⟨r, e1, e2⟩ := both_eq a b (by omega) (by omega)
      rw [e1, Option.bind_some]
      refine ⟨_, rfl, ?_⟩
      have hr : Canon (r.map pa) := by rw [e2]; exact h1.1.both h2.1
      simp only [h1, h2, true_and, decide_eq_true_eq]
      constructor
      · intro h
        cases r with
        | nil => simp at h
        | cons x r =>
          have ox := hr.ok (pa x) (by simp)
          unfold Sets.Ok at ox
          refine ⟨(pa x).1, mem_both.1 ?_⟩
          rw [← e2]
          exact mem_cons.2 (.inl ⟨by omega, by omega⟩)
      · rintro ⟨k, hk⟩
        have := mem_both.2 hk
        rw [← e2] at this
        cases r with
        | nil => exact absurd this mem_nil
        | cons x r => simp
    · rw [chkF hb h2, Option.bind_some, if_neg (by decide)]
      exact ⟨false, rfl, by simp [h2]⟩
  · rw [chkF ha h1, Option.bind_some, if_neg (by decide)]
    exact ⟨false, rfl, by simp [h1]⟩

/-! ### How many keys -/
theorem size_append (l : List Sp) (x : Sp) : size (l ++ [x]) = size l + (x.2 - x.1) := by
  induction l with
  | nil => simp [size]
  | cons y l ih =>
    simp only [size, List.cons_append, List.foldr_cons] at *
    rw [ih]
    omega
theorem size_bound {l : List Sp} (h : ∀ x ∈ l, Sets.Ok x) : 0 ≤ size l ∧ size l ≤ 4096 * l.length := by
  induction l with
  | nil => simp [size]
  | cons y l ih =>
    have := ih fun x hx => h x (List.mem_cons_of_mem _ hx)
    have oy := h y (List.mem_cons_self ..)
    unfold Sets.Ok at oy
    simp only [size, List.foldr_cons, List.length_cons] at *
    omega
theorem count_eq {a : List api_Span} (h : Set' a) : span_Count a = some (size (a.map pa)) := by
  have l1 := h.2
  unfold span_Count
  rw [chkT (by omega) h, Option.bind_some, if_pos rfl]
  obtain ⟨r, h1, h2⟩ : ∃ r, goLoop (span_Count.step a) (.l1 0 0) = some r ∧ r = size (a.map pa) := by
    refine for_post (n := a.length) (fun i (x : Int) => span_Count.S.l1 x (i : Int)) (fun i x => x = size ((a.take i).map pa)) _ ?_ ?_ 0 0 (Nat.zero_le _) rfl
    · intro x hx
      rw [take_all (Nat.le_refl _)] at hx
      exact ⟨x, by simp [span_Count.step, span_Count.l1], hx⟩
    · rintro i x hi rfl
      left
      have ht := take_atI (l := a) (z := api_Span.z) hi
      have hok : ∀ x ∈ (a.take i).map pa, Sets.Ok x := fun x hx => by
        obtain ⟨y, hy, rfl⟩ := List.mem_map.1 hx
        exact set_good h y (List.mem_of_mem_take hy)
      have hb := size_bound hok
      have hin : a.getD (i : Int).toNat api_Span.z ∈ a := by
        have := drop_atI (l := a) (z := api_Span.z) hi
        exact List.mem_of_mem_drop (i := i) (by rw [this]; exact List.mem_cons_self ..)
      have ho := set_good h _ hin
      simp only [span_Count.step, span_Count.l1]
      rw [if_pos (by omega), if_pos (by omega), wr1' (by omega)]
      generalize a.getD (i : Int).toNat api_Span.z = X at ht ho ⊢
      unfold Sets.Ok pa at ho
      simp only at ho
      have hlen : ((a.take i).map pa).length = i := by simp [Nat.min_eq_left (Nat.le_of_lt hi)]
      rw [hlen] at hb
      refine ⟨size ((a.take i).map pa) + (X.Hi - X.Lo), ?_, ?_⟩
      · simp only [bnd]
        rw [wr (n := X.Hi - X.Lo) (by omega), wr (by omega)]
      · rw [ht, List.map_append, List.map_cons, List.map_nil, size_append]
        rfl
  rw [h1, h2]
theorem count_bad {a : List api_Span} (ha : a.length ≤ 5000) (h : ¬ Set' a) : span_Count a = some 0 := by
  unfold span_Count
  rw [chkF ha h, Option.bind_some, if_neg (by decide)]
theorem keys_set {a : List api_Span} (h : Set' a) : keys (a.map pa) = keysOf fun k => memB (a.map pa) k := by
  unfold keys
  have hf : (a.map pa).filter (fun x => decide (Sets.Ok x)) = a.map pa := by
    rw [List.filter_eq_self]
    intro x hx
    obtain ⟨y, hy, rfl⟩ := List.mem_map.1 hx
    exact decide_eq_true (set_good h y hy)
  rw [hf]
theorem ref_count_eq {a : List api_Span} (h : Set' a) : spliceref03_Count (a.map toR) = some (size (a.map pa)) := by
  have l1 := h.2
  unfold spliceref03_Count
  rw [chkRT (by omega) h, Option.bind_some, if_pos rfl, Keys_eq _ (by simp; omega), Option.bind_some, pr_toR, keys_set h, count_loop, count_size h.1]
theorem ref_count_bad {a : List api_Span} (ha : a.length ≤ 5000) (h : ¬ Set' a) : spliceref03_Count (a.map toR) = some 0 := by
  unfold spliceref03_Count
  rw [chkRF ha h, Option.bind_some, if_neg (by decide)]

/-! ### The reference's mix -/
theorem mix_bad {a b : List api_Span} (how : Int) (ha : a.length ≤ 5000) (hb : b.length ≤ 5000) (h : ¬ (Set' a ∧ Set' b)) : spliceref03_Mix (a.map toR) (b.map toR) how = some ([], 1) := by
  unfold spliceref03_Mix
  by_cases h1 : Set' a
  · have h2 : ¬ Set' b := fun h2 => h ⟨h1, h2⟩
    rw [chkRT ha h1, Option.bind_some, if_pos rfl, chkRF hb h2, Option.bind_some]
    rfl
  · rw [chkRF ha h1, Option.bind_some, if_neg (by decide)]
    rfl
theorem memB_false {l : List Sp} {k : Int} : memB l k = false ↔ ¬ mem l k := by
  rw [← memB_iff]; simp
theorem mix_good {a b : List api_Span} (how : Int) (h1 : Set' a) (h2 : Set' b) {m : Int → Prop} (hm : ∀ k, m k ↔ if how = 2 then mem (a.map pa) k ∧ ¬ mem (b.map pa) k else if how = 1 then mem (a.map pa) k ∧ mem (b.map pa) k else mem (a.map pa) k ∨ mem (b.map pa) k) :
    ResR m (spliceref03_Mix (a.map toR) (b.map toR) how) := by
  have l1 := h1.2
  have l2 := h2.2
  unfold spliceref03_Mix
  rw [chkRT (by omega) h1, Option.bind_some, if_pos rfl, chkRT (by omega) h2, Option.bind_some]
  show ResR _ (spliceref03_Mix.j1 (a.map toR) (b.map toR) how false)
  unfold spliceref03_Mix.j1
  rw [if_neg (by decide), Keys_eq _ (by simp; omega), Option.bind_some, Keys_eq _ (by simp; omega), Option.bind_some, pr_toR, pr_toR, keys_set h1, keys_set h2, mix_loop]
  refine set_res (fun k hk => ?_) fun n _ => ?_
  · rw [hm] at hk
    split at hk
    · exact h1.1.bound hk.1
    · split at hk
      · exact h1.1.bound hk.1
      · rcases hk with hk | hk
        · exact h1.1.bound hk
        · exact h2.1.bound hk
  · rw [hm]
    unfold mixB
    split
    · rw [Bool.and_eq_true, memB_iff, Bool.not_eq_true', memB_false]
    · split
      · rw [Bool.and_eq_true, memB_iff, memB_iff]
      · rw [Bool.or_eq_true, memB_iff, memB_iff]
theorem some_good {a b : List api_Span} (how : Int) (hh : how = 1 ∨ how = 2) (h1 : Set' a) (h2 : Set' b) : ∃ r, spliceref03_Some (a.map toR) (b.map toR) how = some r ∧ (r = true ↔ ∃ k, mem (a.map pa) k ∧ (if how = 2 then ¬ mem (b.map pa) k else mem (b.map pa) k)) := by
  have l1 := h1.2
  have l2 := h2.2
  unfold spliceref03_Some
  rw [Keys_eq _ (by simp; omega), Option.bind_some, Keys_eq _ (by simp; omega), Option.bind_some, pr_toR, pr_toR, keys_set h1, keys_set h2]
  obtain ⟨r, e1, e2⟩ := some_loop how (fun k => memB (a.map pa) k) (fun k => memB (b.map pa) k) hh
  refine ⟨r, e1, e2.trans ?_⟩
  have hmix : ∀ k : Nat, mixB how (fun k => memB (a.map pa) k) (fun k => memB (b.map pa) k) k = true ↔ (mem (a.map pa) k ∧ (if how = 2 then ¬ mem (b.map pa) k else mem (b.map pa) k)) := by
    intro k
    unfold mixB
    rcases hh with rfl | rfl
    · rw [if_neg (by decide), if_pos rfl, if_neg (by decide), Bool.and_eq_true, memB_iff, memB_iff]
    · rw [if_pos rfl, if_pos rfl, Bool.and_eq_true, memB_iff, Bool.not_eq_true', memB_false]
  constructor
  · rintro ⟨k, _, hk⟩
    exact ⟨k, (hmix k).1 hk⟩
  · rintro ⟨k, hk⟩
    have hb := h1.1.bound hk.1
    obtain ⟨n, rfl⟩ : ∃ n : Nat, k = n := ⟨k.toNat, by omega⟩
    exact ⟨n, by omega, (hmix n).2 hk⟩

/-! ### The worked example -/
theorem set_of {a : List api_Span} (h : ∀ x ∈ a.map pa, Sets.Ok x) (hp : (a.map pa).Pairwise fun x y => x.2 < y.1) (hl : a.length ≤ 64) : Set' a := ⟨⟨h, hp⟩, hl⟩
theorem awake_true : splicelaw03_awake = some true := by
  unfold splicelaw03_awake
  have s1 : Set' [⟨1, 4⟩, ⟨5, 7⟩] := set_of (by decide) (by decide) (by decide)
  have s2 : Set' [⟨3, 6⟩] := set_of (by decide) (by decide) (by decide)
  have s3 : Set' [⟨3, 4⟩, ⟨5, 6⟩] := set_of (by decide) (by decide) (by decide)
  have m1 := span_Make_good (a := [⟨5, 7⟩, ⟨1, 3⟩, ⟨3, 4⟩]) (by decide) (fun x hx => by
    simp only [List.mem_cons, List.not_mem_nil, or_false] at hx
    rcases hx with rfl | rfl | rfl <;> (unfold Sets.Ok pa; decide))
  have e1 := res_set m1 s1 fun k => by
    simp only [List.map_cons, List.map_nil, mem_cons, mem_nil, or_false, pa]
    omega
  have e2 := res_set (meet_good s1 s2) s3 fun k => by
    simp only [List.map_cons, List.map_nil, mem_cons, mem_nil, or_false, pa]
    omega
  rw [e1, Option.bind_some, e2, Option.bind_some]
  decide
theorem few_eq (a : List api_Span) : splicelaw03_few a = decide (a.length ≤ 200) := by
  unfold splicelaw03_few
  exact decide_eq_decide.2 (by omega)
end Go.SyP
