/- Parts of tables, two tables in one; mutations key by key. -/
import Derived.Test.YtijabmambppfhaaP05H
import Derived.Test.YtijabmambppfhaaP05M
set_option linter.unusedVariables false
set_option linter.unusedSimpArgs false
namespace Go.SyP
open Go Go.Sy Go.Proofs Go.Sort Sets

theorem concatP (a b : List api_Pair) (ha : a.length ≤ 2000) (hb : b.length ≤ 2000) : slices_Concat_api_Pair [a, b] = some (a ++ b) := by
  unfold slices_Concat_api_Pair
  have w0 : IntKind.wrap .i64 ((0 : Int) + (a.length : Int)) = (a.length : Int) := by rw [wr (by omega)]; omega
  have w1 : IntKind.wrap .i64 ((a.length : Int) + (b.length : Int)) = (a.length : Int) + (b.length : Int) := wr (by omega)
  have w2 : IntKind.wrap .i64 ((0 : Int) + 1) = 1 := by decide
  have w3 : IntKind.wrap .i64 ((1 : Int) + 1) = 2 := by decide
  rw [loop_eq]
  simp only [slices_Concat_api_Pair.step, slices_Concat_api_Pair.l1]
  rw [if_pos (by simp), if_pos (by simp), show ([a, b] : List (List api_Pair)).getD (0 : Int).toNat [] = a from rfl, w0]
  simp only [bnd]
  rw [if_neg (by omega), w2]
  simp only [stk]
  rw [loop_eq]
  simp only [slices_Concat_api_Pair.step, slices_Concat_api_Pair.l1]
  rw [if_pos (by simp), if_pos (by simp), show ([a, b] : List (List api_Pair)).getD (1 : Int).toNat [] = b from rfl, w1]
  simp only [bnd]
  rw [if_neg (by omega), w3]
  simp only [stk]
  rw [loop_eq]
  simp only [slices_Concat_api_Pair.step, slices_Concat_api_Pair.l1]
  rw [if_neg (by simp), if_pos (by omega)]
  simp only [stk]
  rw [loop_eq]
  simp only [slices_Concat_api_Pair.step, slices_Concat_api_Pair.l2]
  rw [if_pos (by simp), if_pos (by simp), show ([a, b] : List (List api_Pair)).getD (0 : Int).toNat [] = a from rfl, w2, if_pos (by simp; omega)]
  simp only [stk]
  rw [loop_eq]
  simp only [slices_Concat_api_Pair.step, slices_Concat_api_Pair.l2]
  rw [if_pos (by simp), if_pos (by simp), show ([a, b] : List (List api_Pair)).getD (1 : Int).toNat [] = b from rfl, w3, if_pos (by simp; omega)]
  simp only [stk]
  rw [loop_eq]
  simp only [slices_Concat_api_Pair.step, slices_Concat_api_Pair.l2]
  rw [if_neg (by simp)]
  simp [stk]
theorem ltOf_J (x y : api_Pair) : ltOf table_Join_1 x y = decide (x.Key < y.Key) := ltOf_Join_1 x y
theorem getD_in5 {α : Type} {l : List α} {i : Nat} {z : α} (h : i < l.length) : l.getD i z ∈ l := by
  simp [List.getD_eq_getElem?_getD, h]

/-! ### The part in a set -/
def clip (l : List api_Pair) (on : List api_Span) : List api_Pair := l.filter fun x => hasB on x.Key
theorem look_clip (l : List api_Pair) (on : List api_Span) (k : Int) : look (clip l on) k = if hasB on k = true then look l k else none := look_filter l (hasB on) k
theorem clip_tb {l : List api_Pair} (h : Tb l) (on : List api_Span) : Tb (clip l on) := h.filter _
theorem clip_len (l : List api_Pair) (on : List api_Span) : (clip l on).length ≤ l.length := List.length_filter_le _ _
theorem Clip_good {l : List api_Pair} {on : List api_Span} (hl : l.length ≤ 5000) (ho : on.length ≤ 5000) (ht : Tb l) (hs : SOk on) : table_Clip l on = some (clip l on) := by
  obtain ⟨r1, c1, c2⟩ := table_Check_eq l (by omega)
  obtain ⟨r2, c3, c4⟩ := chkS on ho
  unfold table_Clip
  rw [c1, Option.bind_some, if_pos (c2.2 ht), c3, Option.bind_some, c4.2 hs]
  unfold table_Clip.j1
  rw [if_neg (by decide)]
  obtain ⟨r, e1, e2⟩ : ∃ r, goLoop (table_Clip.step l on) (.l1 0 []) = some r ∧ r = clip l on := by
    refine for_post (n := l.length) (fun i x => table_Clip.S.l1 (i : Int) x) (fun i x => x = clip (l.take i) on) _ ?_ ?_ 0 [] (Nat.zero_le _) rfl
    · rintro x rfl
      rw [take_all (Nat.le_refl _)]
      exact ⟨_, by simp [table_Clip.step, table_Clip.l1], rfl⟩
    · rintro i x hi rfl
      left
      have hstep : (0 : Int) ≤ (i : Int) ∧ (i : Int) < (l.length : Int) := by omega
      have hx := take_at (l := l) (z := api_Pair.z) hi
      have hlen : (clip (l.take i) on).length ≤ i := by
        have := clip_len (l.take i) on
        rw [List.length_take] at this
        omega
      simp only [table_Clip.step, table_Clip.l1, table_Clip.j2, hstep.2, if_true, hstep, and_self, show (i : Int).toNat = i from rfl, has_eq on ho, Option.bind_some, wr1 hi (by omega : l.length ≤ 9223372036854775807)]
      rw [hx]
      unfold clip at hlen ⊢
      rw [List.filter_append, List.filter_cons, List.filter_nil]
      by_cases hh : hasB on (l.getD i api_Pair.z).Key = true
      · rw [if_pos hh, if_pos hh, if_pos (by omega)]
        exact ⟨_, rfl, rfl⟩
      · rw [if_neg hh, if_neg hh, List.append_nil]
        exact ⟨_, rfl, rfl⟩
  rw [e1, e2]
theorem Clip_bad {l : List api_Pair} {on : List api_Span} (hl : l.length ≤ 5000) (ho : on.length ≤ 5000) (h : ¬ (Tb l ∧ SOk on)) : table_Clip l on = some [] := by
  obtain ⟨r1, c1, c2⟩ := table_Check_eq l (by omega)
  obtain ⟨r2, c3, c4⟩ := chkS on ho
  unfold table_Clip
  rw [c1, Option.bind_some]
  cases h1 : r1 with
  | false => rfl
  | true =>
    rw [if_pos rfl, c3, Option.bind_some]
    cases h2 : r2 with
    | false => rfl
    | true => exact absurd ⟨c2.1 h1, c4.1 h2⟩ h
theorem ref_Clip_eq (l : List api_Pair) (on : List api_Span) (hl : l.length ≤ 5000) (ho : on.length ≤ 5000) :
    (Tb l ∧ SOk on → spliceref05_Clip (l.map tr) (on.map toR) = some ((clip l on).map tr)) ∧ (¬ (Tb l ∧ SOk on) → spliceref05_Clip (l.map tr) (on.map toR) = some []) := by
  obtain ⟨r1, c1, c2⟩ := ref5_Check_eq l (by omega)
  obtain ⟨r2, c3, c4⟩ := chkSR on ho
  constructor
  · rintro ⟨ht, hs⟩
    have h1 := c2.2 ht
    have h2 := c4.2 hs
    unfold spliceref05_Clip
    obtain ⟨r, e1, e2⟩ : ∃ r, goLoop (spliceref05_Clip.step (l.map tr) (on.map toR)) (.l1 0 []) = some r ∧ r = (clip l on).map tr := by
      refine for_post (n := l.length) (fun i x => spliceref05_Clip.S.l1 (i : Int) x) (fun i x => x = (clip (l.take i) on).map tr) _ ?_ ?_ 0 [] (Nat.zero_le _) rfl
      · rintro x rfl
        rw [take_all (Nat.le_refl _)]
        exact ⟨_, by simp [spliceref05_Clip.step, spliceref05_Clip.l1], rfl⟩
      · rintro i x hi rfl
        left
        have hstep : (0 : Int) ≤ (i : Int) ∧ (i : Int) < (l.length : Int) := by omega
        have hx := take_at (l := l) (z := api_Pair.z) hi
        have hlen : (clip (l.take i) on).length ≤ i := by
          have := clip_len (l.take i) on
          rw [List.length_take] at this
          omega
        have hat : (l.map tr).getD i spliceref04_Pair.z = tr (l.getD i api_Pair.z) := tr_at l hi
        simp only [spliceref05_Clip.step, spliceref05_Clip.l1, spliceref05_Clip.j1, spliceref05_Clip.j2, List.length_map, hstep.2, if_true, hstep, and_self, c1, c3, h1, h2, show (i : Int).toNat = i from rfl, hat, show ∀ p : api_Pair, (tr p).Key = p.Key from fun _ => rfl, hasR_eq on ho, Option.bind_some, wr1 hi (by omega : l.length ≤ 9223372036854775807)]
        rw [hx]
        unfold clip at hlen ⊢
        rw [List.filter_append, List.filter_cons, List.filter_nil]
        by_cases hh : hasB on (l.getD i api_Pair.z).Key = true
        · rw [if_pos hh, if_pos hh, if_pos (by omega)]
          exact ⟨_, rfl, by rw [List.map_append]; rfl⟩
        · rw [if_neg hh, if_neg hh, List.append_nil]
          exact ⟨_, rfl, rfl⟩
    rw [e1, e2]
  · intro h
    unfold spliceref05_Clip
    obtain ⟨r, e1, e2⟩ : ∃ r, goLoop (spliceref05_Clip.step (l.map tr) (on.map toR)) (.l1 0 []) = some r ∧ r = [] := by
      refine for_post (n := l.length) (fun i x => spliceref05_Clip.S.l1 (i : Int) x) (fun i x => x = []) _ ?_ ?_ 0 [] (Nat.zero_le _) rfl
      · rintro x rfl
        exact ⟨_, by simp [spliceref05_Clip.step, spliceref05_Clip.l1], rfl⟩
      · rintro i x hi rfl
        left
        have hstep : (0 : Int) ≤ (i : Int) ∧ (i : Int) < (l.length : Int) := by omega
        simp only [spliceref05_Clip.step, spliceref05_Clip.l1, List.length_map, hstep.2, if_true, hstep, and_self, c1, c3, Option.bind_some]
        have j1f : spliceref05_Clip.j1 (l.map tr) (i : Int) [] false = some (.inl (.l1 ((i + 1 : Nat) : Int) [])) := by
          simp only [spliceref05_Clip.j1, spliceref05_Clip.j2, Bool.false_eq_true, if_false, wr1 hi (by omega : l.length ≤ 9223372036854775807)]
        cases h1 : r1 with
        | false => exact ⟨_, j1f, rfl⟩
        | true =>
          cases h2 : r2 with
          | false => exact ⟨_, j1f, rfl⟩
          | true => exact absurd ⟨c2.1 h1, c4.1 h2⟩ h
    rw [e1, e2]

/-! ### Two in one -/
inductive JoinTo (a b : List api_Pair) : List api_Pair × Int → Prop
  | ok {m : List api_Pair} (tb : Tb m) (at_ : ∀ k, look m k = (look a k).or (look b k)) (apart : ∀ k, look a k = none ∨ look b k = none) : JoinTo a b (m, 0)
  | bad {k v w : Int} (h1 : look a k = some v) (h2 : look b k = some w) : JoinTo a b ([], 7)
theorem JoinTo.unique {a b : List api_Pair} {r s : List api_Pair × Int} (h : JoinTo a b r) (h' : JoinTo a b s) : r = s := by
  cases h with
  | ok t1 a1 p1 =>
    cases h' with
    | ok t2 a2 p2 => rw [t1.up.unique t2.up fun k => by rw [a1, a2]]
    | @bad k v w h1 h2 =>
      rcases p1 k with h | h
      · rw [h1] at h; cases h
      · rw [h2] at h; cases h
  | @bad k v w h1 h2 =>
    cases h' with
    | ok t2 a2 p2 =>
      rcases p2 k with h | h
      · rw [h1] at h; cases h
      · rw [h2] at h; cases h
    | bad _ _ => rfl
theorem look_iff {l : List api_Pair} (h : Up l) {k v : Int} : look l k = some v ↔ (⟨k, v⟩ : api_Pair) ∈ l := ⟨look_mem, fun hm => look_some h hm⟩
theorem up_len {l : List api_Pair} (h : Tb l) : l.length ≤ 4096 := by
  have key : ∀ (l : List api_Pair) (lo : Int), 0 ≤ lo → Up l → (∀ x ∈ l, lo ≤ x.Key ∧ x.Key < 4096) → (l.length : Int) ≤ max 0 (4096 - lo) := by
    intro l
    induction l with
    | nil => intro lo _ _ _; simp; omega
    | cons x l ih =>
      intro lo h0 hu hb
      have hx := hb x (List.mem_cons_self ..)
      have := ih (x.Key + 1) (by omega) hu.tail (fun y hy => ⟨by have := hu.head y hy; omega, (hb y (List.mem_cons_of_mem _ hy)).2⟩)
      simp only [List.length_cons]
      omega
  have := key l 0 (by omega) h.up (fun x hx => ⟨(h.ok x hx).1, (h.ok x hx).2.1⟩)
  omega
theorem join_sorted {a b L : List api_Pair} (ha : Tb a) (hb : Tb b) (hp : L.Perm (a ++ b)) (hs : L.Pairwise fun x y => x.Key ≤ y.Key) : (Tb L ∧ JoinTo a b (L, 0)) ∨ (¬ Tb L ∧ JoinTo a b ([], 7)) := by
  have hok : ∀ x ∈ L, okP x := fun x hx => by
    rcases List.mem_append.1 (hp.mem_iff.1 hx) with h | h
    · exact ha.ok x h
    · exact hb.ok x h
  by_cases hc : ∃ k v w, look a k = some v ∧ look b k = some w
  · right
    obtain ⟨k, v, w, h1, h2⟩ := hc
    refine ⟨fun ht => ?_, .bad h1 h2⟩
    -- two of one key
    have hkeys : (L.map (·.Key)).Nodup := by
      have := ht.up
      unfold Up at this
      exact (List.pairwise_map.2 (this.imp fun h => Int.ne_of_lt h))
    have hn : ((a ++ b).map (·.Key)).Nodup := (hp.map (·.Key)).nodup_iff.1 hkeys
    rw [List.map_append, List.nodup_append] at hn
    exact hn.2.2 k (List.mem_map.2 ⟨_, look_mem h1, rfl⟩) k (List.mem_map.2 ⟨_, look_mem h2, rfl⟩) rfl
  · left
    have apart : ∀ k, look a k = none ∨ look b k = none := fun k => by
      cases h1 : look a k with
      | none => exact .inl rfl
      | some v =>
        cases h2 : look b k with
        | none => exact .inr rfl
        | some w => exact absurd ⟨k, v, w, h1, h2⟩ hc
    have hn : ((a ++ b).map (·.Key)).Nodup := by
      rw [List.map_append, List.nodup_append]
      refine ⟨List.pairwise_map.2 (ha.up.imp fun h => Int.ne_of_lt h), List.pairwise_map.2 (hb.up.imp fun h => Int.ne_of_lt h), fun k h1 j h2 e => ?_⟩
      subst e
      obtain ⟨x, hx, rfl⟩ := List.mem_map.1 h1
      obtain ⟨y, hy, e⟩ := List.mem_map.1 h2
      have q1 := look_some ha.up hx
      have q2 := look_some hb.up hy
      rw [e] at q2
      rcases apart x.Key with h | h
      · rw [q1] at h; cases h
      · rw [q2] at h; cases h
    have hkeys : (L.map (·.Key)).Nodup := (hp.map (·.Key)).nodup_iff.2 hn
    have hup : Up L := by
      unfold Up
      have h2 : L.Pairwise fun x y => x.Key ≠ y.Key := List.pairwise_map.1 hkeys
      exact (hs.and h2).imp fun h => by omega
    have ht : Tb L := ⟨hok, hup⟩
    refine ⟨ht, .ok ht (fun k => ?_) apart⟩
    apply Option.ext
    intro v
    rw [look_iff hup, hp.mem_iff, List.mem_append, ← look_iff ha.up, ← look_iff hb.up]
    rcases apart k with h | h
    · rw [h]; simp
    · rw [h]
      cases look a k <;> simp
theorem table_Join_eq {a b : List api_Pair} (hla : a.length ≤ 2000) (hlb : b.length ≤ 2000) (ha : Tb a) (hb : Tb b) : ∃ r, table_Join a b = some r ∧ JoinTo a b r := by
  obtain ⟨r1, c1, c2⟩ := table_Check_eq a (by omega)
  obtain ⟨r2, c3, c4⟩ := table_Check_eq b (by omega)
  unfold table_Join
  rw [c1, Option.bind_some, if_pos (c2.2 ha), c3, Option.bind_some, c4.2 hb]
  unfold table_Join.j1
  rw [if_neg (by decide), concatP a b hla hlb, Option.bind_some, if_pos (by simp; omega)]
  have hp := sortL_perm api_Pair.z swo_table_Join_1 (a ++ b)
  have hs : (sortL api_Pair.z table_Join_1 (a ++ b)).Pairwise fun x y => x.Key ≤ y.Key := (sortL_sorted api_Pair.z swo_table_Join_1 (a ++ b)).imp fun {x y} h => by
    rw [ltOf_J] at h
    simpa using h
  obtain ⟨r3, c5, c6⟩ := table_Check_eq (sortL api_Pair.z table_Join_1 (a ++ b)) (by rw [hp.length_eq]; simp; omega)
  rw [c5, Option.bind_some]
  rcases join_sorted ha hb hp hs with ⟨h1, h2⟩ | ⟨h1, h2⟩
  · rw [if_pos (c6.2 h1)]
    exact ⟨_, rfl, h2⟩
  · rw [if_neg (fun h => h1 (c6.1 h))]
    exact ⟨_, rfl, h2⟩
theorem table_Join_bad {a b : List api_Pair} (hla : a.length ≤ 2000) (hlb : b.length ≤ 2000) (h : ¬ (Tb a ∧ Tb b)) : table_Join a b = some ([], 1) := by
  obtain ⟨r1, c1, c2⟩ := table_Check_eq a (by omega)
  obtain ⟨r2, c3, c4⟩ := table_Check_eq b (by omega)
  unfold table_Join
  rw [c1, Option.bind_some]
  cases h1 : r1 with
  | false => rfl
  | true =>
    rw [if_pos rfl, c3, Option.bind_some]
    cases h2 : r2 with
    | false => rfl
    | true => exact absurd ⟨c2.1 h1, c4.1 h2⟩ h

/-- The document's merging. -/
def mergeN : Nat → List api_Pair → List api_Pair → Option (List api_Pair)
  | 0, _, _ => some []
  | n + 1, [], [] => some []
  | n + 1, x :: a, [] => (mergeN n a []).map (x :: ·)
  | n + 1, [], y :: b => (mergeN n [] b).map (y :: ·)
  | n + 1, x :: a, y :: b => if x.Key = y.Key then none else if x.Key < y.Key then (mergeN n a (y :: b)).map (x :: ·) else (mergeN n (x :: a) b).map (y :: ·)
theorem mergeN_spec : ∀ (n : Nat) (a b : List api_Pair), Up a → Up b → a.length + b.length ≤ n →
    (∃ k v w, look a k = some v ∧ look b k = some w) ∧ mergeN n a b = none ∨
    ∃ m, mergeN n a b = some m ∧ m.Perm (a ++ b) ∧ (m.Pairwise fun x y => x.Key ≤ y.Key) ∧ ∀ k, look a k = none ∨ look b k = none := by
  intro n
  induction n with
  | zero =>
    intro a b _ _ h
    have h1 : a = [] := List.length_eq_zero_iff.1 (by omega)
    have h2 : b = [] := List.length_eq_zero_iff.1 (by omega)
    subst h1
    subst h2
    exact .inr ⟨[], rfl, .refl _, .nil, fun k => .inl rfl⟩
  | succ n ih =>
    intro a b ha hb hl
    have le_of : ∀ (x : api_Pair) (a b m : List api_Pair), m.Perm (a ++ b) → (∀ y ∈ a, x.Key ≤ y.Key) → (∀ y ∈ b, x.Key ≤ y.Key) → ∀ y ∈ m, x.Key ≤ y.Key := fun x a b m hp h1 h2 y hy => by
      rcases List.mem_append.1 (hp.mem_iff.1 hy) with h | h
      · exact h1 y h
      · exact h2 y h
    match a, b, ha, hb, hl with
    | [], [], _, _, _ => exact .inr ⟨[], rfl, .refl _, .nil, fun k => .inl rfl⟩
    | x :: a, [], ha, hb, hl =>
      rcases ih a [] ha.tail hb (by simp at hl ⊢; omega) with ⟨⟨k, v, w, _, h2⟩, _⟩ | ⟨m, e1, e2, e3, e4⟩
      · simp [look] at h2
      · refine .inr ⟨x :: m, by simp [mergeN, e1], by simpa using e2.cons x, ?_, fun k => .inr rfl⟩
        refine List.pairwise_cons.2 ⟨le_of x a [] m e2 (fun y hy => Int.le_of_lt (ha.head y hy)) (by simp), e3⟩
    | [], y :: b, ha, hb, hl =>
      rcases ih [] b ha hb.tail (by simp at hl ⊢; omega) with ⟨⟨k, v, w, h1, _⟩, _⟩ | ⟨m, e1, e2, e3, e4⟩
      · simp [look] at h1
      · refine .inr ⟨y :: m, by simp [mergeN, e1], by simpa using e2.cons y, ?_, fun k => .inl rfl⟩
        refine List.pairwise_cons.2 ⟨le_of y [] b m e2 (by simp) (fun z hz => Int.le_of_lt (hb.head z hz)), e3⟩
    | x :: a, y :: b, ha, hb, hl =>
      by_cases h : x.Key = y.Key
      · left
        refine ⟨⟨x.Key, x.Val, y.Val, by simp [look], by simp [look, h]⟩, by simp [mergeN, h]⟩
      · by_cases hlt : x.Key < y.Key
        · have hx : look (y :: b) x.Key = none := look_none fun z hz => by
            rcases List.mem_cons.1 hz with rfl | hz
            · exact fun e => h e.symm
            · have := hb.head z hz
              omega
          rcases ih a (y :: b) ha.tail hb (by simp at hl ⊢; omega) with ⟨⟨k, v, w, h1, h2⟩, e⟩ | ⟨m, e1, e2, e3, e4⟩
          · left
            refine ⟨⟨k, v, w, ?_, h2⟩, by simp [mergeN, h, hlt, e]⟩
            rw [look]
            by_cases hk : x.Key = k
            · rw [← hk, hx] at h2
              cases h2
            · rw [if_neg hk]
              exact h1
          · refine .inr ⟨x :: m, by simp [mergeN, h, hlt, e1], by simpa using e2.cons x, ?_, fun k => ?_⟩
            · refine List.pairwise_cons.2 ⟨le_of x a (y :: b) m e2 (fun z hz => Int.le_of_lt (ha.head z hz)) (fun z hz => ?_), e3⟩
              rcases List.mem_cons.1 hz with rfl | hz
              · omega
              · have := hb.head z hz
                omega
            · by_cases hk : x.Key = k
              · rw [← hk]
                exact .inr hx
              · rw [look, if_neg hk]
                exact e4 k
        · have hy : look (x :: a) y.Key = none := look_none fun z hz => by
            rcases List.mem_cons.1 hz with rfl | hz
            · exact h
            · have := ha.head z hz
              omega
          rcases ih (x :: a) b ha hb.tail (by simp at hl ⊢; omega) with ⟨⟨k, v, w, h1, h2⟩, e⟩ | ⟨m, e1, e2, e3, e4⟩
          · left
            refine ⟨⟨k, v, w, h1, ?_⟩, by simp [mergeN, h, hlt, e]⟩
            rw [look]
            by_cases hk : y.Key = k
            · rw [← hk, hy] at h1
              cases h1
            · rw [if_neg hk]
              exact h2
          · refine .inr ⟨y :: m, by simp [mergeN, h, hlt, e1], ?_, ?_, fun k => ?_⟩
            · have := e2.cons y
              exact this.trans (List.perm_middle.symm)
            · refine List.pairwise_cons.2 ⟨le_of y (x :: a) b m e2 (fun z hz => ?_) (fun z hz => Int.le_of_lt (hb.head z hz)), e3⟩
              rcases List.mem_cons.1 hz with rfl | hz
              · omega
              · have := ha.head z hz
                omega
            · by_cases hk : y.Key = k
              · rw [← hk]
                exact .inl hy
              · rw [show look (y :: b) k = look b k by rw [look, if_neg hk]]
                exact e4 k
theorem ref_Join_loop (a b : List api_Pair) (hla : a.length ≤ 2000) (hlb : b.length ≤ 2000) : ∀ (n i j : Nat) (out : List api_Pair), i ≤ a.length → j ≤ b.length → (a.length - i) + (b.length - j) ≤ n → out.length = i + j →
    goLoop (spliceref05_Join.step (a.map tr) (b.map tr)) (.l1 (i : Int) (j : Int) (out.map tr)) = some (match mergeN n (a.drop i) (b.drop j) with | none => ([], 7) | some m => ((out ++ m).map tr, 0)) := by
  intro n
  induction n with
  | zero =>
    intro i j out hi hj hn ho
    obtain rfl : i = a.length := by omega
    obtain rfl : j = b.length := by omega
    rw [loop_eq]
    simp [spliceref05_Join.step, spliceref05_Join.l1, spliceref05_Join.j2, stk, mergeN]
  | succ n ih =>
    intro i j out hi hj hn ho
    rw [loop_eq]
    have ta : i < a.length → a.drop i = a.getD i api_Pair.z :: a.drop (i + 1) := fun h => drop_atI h
    have tb : j < b.length → b.drop j = b.getD j api_Pair.z :: b.drop (j + 1) := fun h => drop_atI h
    have ga : i < a.length → (a.map tr).getD i spliceref04_Pair.z = tr (a.getD i api_Pair.z) := fun h => tr_at a h
    have gb : j < b.length → (b.map tr).getD j spliceref04_Pair.z = tr (b.getD j api_Pair.z) := fun h => tr_at b h
    have wa : i < a.length → IntKind.wrap .i64 ((i : Int) + 1) = ((i + 1 : Nat) : Int) := fun h => wr1 h (by omega)
    have wb : j < b.length → IntKind.wrap .i64 ((j : Int) + 1) = ((j + 1 : Nat) : Int) := fun h => wr1 h (by omega)
    have takeA : i < a.length → spliceref05_Join.j4 (a.map tr) (b.map tr) (i : Int) (j : Int) (out.map tr) true = some (.inl (.l1 ((i + 1 : Nat) : Int) (j : Int) ((out ++ [a.getD i api_Pair.z]).map tr))) := fun h => by
      unfold spliceref05_Join.j4
      rw [if_pos rfl, List.length_map, if_pos (by omega), List.length_map, if_pos (by omega), show (i : Int).toNat = i from rfl, ga h, wa h, List.map_append]
      rfl
    have takeB : j < b.length → spliceref05_Join.j4 (a.map tr) (b.map tr) (i : Int) (j : Int) (out.map tr) false = some (.inl (.l1 (i : Int) ((j + 1 : Nat) : Int) ((out ++ [b.getD j api_Pair.z]).map tr))) := fun h => by
      unfold spliceref05_Join.j4
      rw [if_neg (by decide), List.length_map, if_pos (by omega), List.length_map, if_pos (by omega), show (j : Int).toNat = j from rfl, gb h, wb h, List.map_append]
      rfl
    have goA : i < a.length → stk (spliceref05_Join.j4 (a.map tr) (b.map tr) (i : Int) (j : Int) (out.map tr) true) (goLoop (spliceref05_Join.step (a.map tr) (b.map tr))) = some (match mergeN n (a.drop (i + 1)) (b.drop j) with | none => ([], 7) | some m => ((out ++ a.getD i api_Pair.z :: m).map tr, 0)) := fun h => by
      rw [takeA h]
      have := ih (i + 1) j (out ++ [a.getD i api_Pair.z]) (by omega) hj (by omega) (by simp [ho]; omega)
      simp only [stk]
      rw [this]
      cases mergeN n (a.drop (i + 1)) (b.drop j) <;> simp
    have goB : j < b.length → stk (spliceref05_Join.j4 (a.map tr) (b.map tr) (i : Int) (j : Int) (out.map tr) false) (goLoop (spliceref05_Join.step (a.map tr) (b.map tr))) = some (match mergeN n (a.drop i) (b.drop (j + 1)) with | none => ([], 7) | some m => ((out ++ b.getD j api_Pair.z :: m).map tr, 0)) := fun h => by
      rw [takeB h]
      have := ih i (j + 1) (out ++ [b.getD j api_Pair.z]) hi (by omega) (by omega) (by simp [ho]; omega)
      simp only [stk]
      rw [this]
      cases mergeN n (a.drop i) (b.drop (j + 1)) <;> simp
    by_cases h1 : i < a.length
    · by_cases h2 : j < b.length
      · rw [ta h1, tb h2]
        have e : spliceref05_Join.step (a.map tr) (b.map tr) (.l1 (i : Int) (j : Int) (out.map tr)) = spliceref05_Join.j3 (a.map tr) (b.map tr) (i : Int) (j : Int) (out.map tr) ((a.getD i api_Pair.z).Key == (b.getD j api_Pair.z).Key) := by
          simp only [spliceref05_Join.step, spliceref05_Join.l1, spliceref05_Join.j2, List.length_map]
          rw [if_pos (by omega), if_pos trivial, if_pos (by omega), if_pos (by omega), if_pos (by omega), if_pos (by omega), show (i : Int).toNat = i from rfl, show (j : Int).toNat = j from rfl, ga h1, gb h2]
          rfl
        rw [e]
        unfold spliceref05_Join.j3
        by_cases hk : (a.getD i api_Pair.z).Key = (b.getD j api_Pair.z).Key
        · rw [if_pos (eqT hk)]
          simp only [stk, mergeN, if_pos hk]
        · rw [if_neg (by rw [eqF hk]; decide), List.length_map, if_neg (by omega), List.length_map, if_pos (by omega), if_pos (by omega), if_pos (by omega), show (i : Int).toNat = i from rfl, show (j : Int).toNat = j from rfl, ga h1, gb h2]
          by_cases hlt : (a.getD i api_Pair.z).Key < (b.getD j api_Pair.z).Key
          · rw [decide_eq_true (show (tr (a.getD i api_Pair.z)).Key < (tr (b.getD j api_Pair.z)).Key from hlt), goA h1, tb h2]
            simp only [mergeN, if_neg hk, if_pos hlt]
            cases mergeN n (a.drop (i + 1)) (b.getD j api_Pair.z :: b.drop (j + 1)) <;> rfl
          · rw [decide_eq_false (show ¬ (tr (a.getD i api_Pair.z)).Key < (tr (b.getD j api_Pair.z)).Key from hlt), goB h2, ta h1]
            simp only [mergeN, if_neg hk, if_neg hlt]
            cases mergeN n (a.getD i api_Pair.z :: a.drop (i + 1)) (b.drop (j + 1)) <;> rfl
      · obtain rfl : j = b.length := by omega
        have e : spliceref05_Join.step (a.map tr) (b.map tr) (.l1 (i : Int) (b.length : Int) (out.map tr)) = spliceref05_Join.j4 (a.map tr) (b.map tr) (i : Int) (b.length : Int) (out.map tr) true := by
          simp only [spliceref05_Join.step, spliceref05_Join.l1, spliceref05_Join.j2, spliceref05_Join.j3, List.length_map]
          rw [if_pos (by omega), if_pos trivial, if_pos (by omega), if_neg (by omega), if_neg (by decide), if_pos trivial]
        rw [e, goA h1, ta h1, List.drop_length]
        simp only [mergeN]
        cases mergeN n (a.drop (i + 1)) [] <;> rfl
    · obtain rfl : i = a.length := by omega
      by_cases h2 : j < b.length
      · have e : spliceref05_Join.step (a.map tr) (b.map tr) (.l1 (a.length : Int) (j : Int) (out.map tr)) = spliceref05_Join.j4 (a.map tr) (b.map tr) (a.length : Int) (j : Int) (out.map tr) false := by
          simp only [spliceref05_Join.step, spliceref05_Join.l1, spliceref05_Join.j2, spliceref05_Join.j3, List.length_map]
          rw [if_neg (by omega), decide_eq_true (by omega), if_pos rfl, if_neg (by omega), if_neg (by decide), if_neg (by omega), if_neg (by omega)]
        rw [e, goB h2, tb h2, List.drop_length]
        simp only [mergeN]
        cases mergeN n [] (b.drop (j + 1)) <;> rfl
      · obtain rfl : j = b.length := by omega
        simp [spliceref05_Join.step, spliceref05_Join.l1, spliceref05_Join.j2, stk, mergeN]
theorem ref_Join_eq {a b : List api_Pair} (hla : a.length ≤ 2000) (hlb : b.length ≤ 2000) (ha : Tb a) (hb : Tb b) : ∃ r : List api_Pair × Int, spliceref05_Join (a.map tr) (b.map tr) = some (r.1.map tr, r.2) ∧ JoinTo a b r := by
  obtain ⟨r1, c1, c2⟩ := ref5_Check_eq a (by omega)
  obtain ⟨r2, c3, c4⟩ := ref5_Check_eq b (by omega)
  unfold spliceref05_Join
  rw [c1, Option.bind_some, if_pos (c2.2 ha), c3, Option.bind_some, c4.2 hb]
  unfold spliceref05_Join.j1
  rw [if_neg (by decide)]
  have h := ref_Join_loop a b hla hlb (a.length + b.length) 0 0 [] (Nat.zero_le _) (Nat.zero_le _) (by omega) rfl
  simp only [List.drop_zero, List.map_nil, List.nil_append] at h
  rw [show ((0 : Nat) : Int) = 0 from rfl] at h
  rw [h]
  rcases mergeN_spec (a.length + b.length) a b ha.up hb.up (Nat.le_refl _) with ⟨⟨k, v, w, h1, h2⟩, e⟩ | ⟨m, e1, e2, e3, e4⟩
  · rw [e]
    exact ⟨([], 7), rfl, .bad h1 h2⟩
  · rw [e1]
    rcases join_sorted ha hb e2 e3 with ⟨_, q⟩ | ⟨_, q⟩
    · exact ⟨(m, 0), rfl, q⟩
    · exfalso
      cases q with
      | @bad k v w h1 h2 =>
        rcases e4 k with h | h
        · rw [h1] at h; cases h
        · rw [h2] at h; cases h
theorem ref_Join_bad {a b : List api_Pair} (hla : a.length ≤ 2000) (hlb : b.length ≤ 2000) (h : ¬ (Tb a ∧ Tb b)) : spliceref05_Join (a.map tr) (b.map tr) = some ([], 1) := by
  obtain ⟨r1, c1, c2⟩ := ref5_Check_eq a (by omega)
  obtain ⟨r2, c3, c4⟩ := ref5_Check_eq b (by omega)
  unfold spliceref05_Join
  rw [c1, Option.bind_some]
  cases h1 : r1 with
  | false => rfl
  | true =>
    rw [if_pos rfl, c3, Option.bind_some]
    cases h2 : r2 with
    | false => rfl
    | true => exact absurd ⟨c2.1 h1, c4.1 h2⟩ h
end Go.SyP
