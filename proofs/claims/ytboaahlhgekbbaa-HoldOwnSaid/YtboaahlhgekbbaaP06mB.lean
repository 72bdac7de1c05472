/- Tables: pairs in rising keys; the value of a key; putting a value. Plain lists. -/
import Derived.Test.YtboaahlhgekbbaaP06mA
set_option linter.unusedVariables false
set_option linter.unusedSimpArgs false
namespace Go.SyP
open Go Go.Sy Sets

def okP (x : api_Pair) : Prop := 0 ≤ x.Key ∧ x.Key < 4096 ∧ -1099511627776 ≤ x.Val ∧ x.Val ≤ 1099511627776
instance (x : api_Pair) : Decidable (okP x) := by unfold okP; exact inferInstance
def Up (l : List api_Pair) : Prop := l.Pairwise fun x y => x.Key < y.Key
structure Tb (l : List api_Pair) : Prop where
  ok : ∀ x ∈ l, okP x
  up : Up l

def look : List api_Pair → Int → Option Int
  | [], _ => none
  | x :: l, k => if x.Key = k then some x.Val else look l k

theorem Up.tail {x : api_Pair} {l : List api_Pair} (h : Up (x :: l)) : Up l := (List.pairwise_cons.1 h).2
theorem Up.head {x : api_Pair} {l : List api_Pair} (h : Up (x :: l)) : ∀ y ∈ l, x.Key < y.Key := (List.pairwise_cons.1 h).1
theorem Tb.nil : Tb [] := ⟨fun x h => by simp at h, .nil⟩
theorem Tb.tail {x : api_Pair} {l : List api_Pair} (h : Tb (x :: l)) : Tb l := ⟨fun y hy => h.ok y (List.mem_cons_of_mem _ hy), h.up.tail⟩

theorem look_none {l : List api_Pair} {k : Int} (h : ∀ x ∈ l, x.Key ≠ k) : look l k = none := by
  induction l with
  | nil => rfl
  | cons x l ih =>
    rw [look, if_neg (h x (by simp)), ih fun y hy => h y (List.mem_cons_of_mem _ hy)]
theorem look_mem {l : List api_Pair} {k v : Int} (h : look l k = some v) : (⟨k, v⟩ : api_Pair) ∈ l := by
  induction l with
  | nil => cases h
  | cons x l ih =>
    rw [look] at h
    split at h
    · rename_i e
      injection h with h
      subst e
      subst h
      simp
    · exact List.mem_cons_of_mem _ (ih h)
theorem look_some {l : List api_Pair} (hu : Up l) {x : api_Pair} (h : x ∈ l) : look l x.Key = some x.Val := by
  induction l with
  | nil => cases h
  | cons y l ih =>
    rw [look]
    rcases List.mem_cons.1 h with rfl | h
    · rw [if_pos rfl]
    · have := hu.head x h
      rw [if_neg (by omega), ih hu.tail h]
theorem look_isNone {l : List api_Pair} {k : Int} (h : look l k = none) : ∀ x ∈ l, x.Key ≠ k := by
  induction l with
  | nil => intro x hx; cases hx
  | cons y l ih =>
    rw [look] at h
    split at h
    · cases h
    · rename_i e
      intro x hx
      rcases List.mem_cons.1 hx with rfl | hx
      · exact e
      · exact ih h x hx
theorem look_ok {l : List api_Pair} (h : Tb l) {k v : Int} (e : look l k = some v) : 0 ≤ k ∧ k < 4096 ∧ -1099511627776 ≤ v ∧ v ≤ 1099511627776 := h.ok _ (look_mem e)
theorem look_bound {l : List api_Pair} (h : Tb l) (k : Int) : -1099511627776 ≤ (look l k).getD 0 ∧ (look l k).getD 0 ≤ 1099511627776 := by
  cases e : look l k with
  | none => simp
  | some v => have := look_ok h e; simp; omega

/-- Rising pairs are known by their values. -/
theorem Up.unique : ∀ {l m : List api_Pair}, Up l → Up m → (∀ k, look l k = look m k) → l = m
  | [], [], _, _, _ => rfl
  | [], y :: m, _, _, h => by have := h y.Key; simp [look] at this
  | x :: l, [], _, _, h => by have := h x.Key; simp [look] at this
  | x :: l, y :: m, hl, hm, h => by
    have hx := h x.Key
    have hy := h y.Key
    simp only [look, if_true] at hx hy
    have e1 : x.Key = y.Key := by
      rcases Int.lt_trichotomy x.Key y.Key with h1 | h1 | h1
      · rw [if_neg (by omega), look_none fun z hz => by have := hm.head z hz; omega] at hx
        cases hx
      · exact h1
      · rw [if_neg (by omega), look_none fun z hz => by have := hl.head z hz; omega] at hy
        cases hy
    rw [if_pos e1.symm] at hx
    injection hx with hx
    have e2 : x = y := by cases x; cases y; simp only at e1 hx; subst e1; subst hx; rfl
    subst e2
    have := Up.unique hl.tail hm.tail fun k => by
      have := h k
      simp only [look] at this
      by_cases hk : x.Key = k
      · rw [look_none fun z hz => by have := hl.head z hz; omega, look_none fun z hz => by have := hm.head z hz; omega]
      · rwa [if_neg hk, if_neg hk] at this
    rw [this]

/-! ### A value is put -/
def putL : List api_Pair → Int → Int → List api_Pair
  | [], k, v => [⟨k, v⟩]
  | x :: l, k, v => if x.Key < k then x :: putL l k v else if x.Key = k then ⟨k, v⟩ :: l else ⟨k, v⟩ :: x :: l
theorem look_putL : ∀ (l : List api_Pair) (k v j : Int), look (putL l k v) j = if j = k then some v else look l j
  | [], k, v, j => by simp only [putL, look]; by_cases h : k = j <;> simp [h, eq_comm]
  | x :: l, k, v, j => by
    simp only [putL]
    by_cases h1 : x.Key < k
    · rw [if_pos h1, look, look_putL l k v j, look]
      by_cases h2 : j = k
      · rw [if_neg (by omega), if_pos h2, if_pos h2]
      · rw [if_neg h2, if_neg h2]
    · rw [if_neg h1]
      by_cases h2 : x.Key = k
      · rw [if_pos h2, look, look]
        by_cases h3 : j = k
        · rw [if_pos h3.symm, if_pos h3]
        · rw [if_neg (fun e => h3 e.symm), if_neg h3, if_neg (by omega)]
      · rw [if_neg h2, look]
        by_cases h3 : j = k
        · rw [if_pos h3.symm, if_pos h3]
        · rw [if_neg (fun e => h3 e.symm), if_neg h3]
theorem mem_putL : ∀ {l : List api_Pair} {k v : Int} {y : api_Pair}, y ∈ putL l k v → y ∈ l ∨ y = ⟨k, v⟩
  | [], k, v, y, h => .inr (by simpa [putL] using h)
  | x :: l, k, v, y, h => by
    simp only [putL] at h
    split at h
    · rcases List.mem_cons.1 h with rfl | h
      · exact .inl (by simp)
      · rcases mem_putL h with h | h
        · exact .inl (List.mem_cons_of_mem _ h)
        · exact .inr h
    · split at h
      · rcases List.mem_cons.1 h with rfl | h
        · exact .inr rfl
        · exact .inl (List.mem_cons_of_mem _ h)
      · rcases List.mem_cons.1 h with rfl | h
        · exact .inr rfl
        · exact .inl h
theorem Up.putL : ∀ {l : List api_Pair} (k v : Int), Up l → Up (putL l k v)
  | [], k, v, _ => by simp [SyP.putL, Up]
  | x :: l, k, v, h => by
    simp only [SyP.putL]
    split
    · rename_i h1
      refine List.pairwise_cons.2 ⟨fun y hy => ?_, Up.putL k v h.tail⟩
      rcases mem_putL hy with hy | rfl
      · exact h.head y hy
      · exact h1
    · split
      · rename_i h1 h2
        exact List.pairwise_cons.2 ⟨fun y hy => by have := h.head y hy; show k < y.Key; omega, h.tail⟩
      · rename_i h1 h2
        refine List.pairwise_cons.2 ⟨fun y hy => ?_, h⟩
        show k < y.Key
        rcases List.mem_cons.1 hy with rfl | hy
        · omega
        · have := h.head y hy; omega
theorem Tb.putL {l : List api_Pair} {k v : Int} (h : Tb l) (ho : okP ⟨k, v⟩) : Tb (putL l k v) :=
  ⟨fun y hy => (mem_putL hy).elim (fun hy => h.ok y hy) (fun e => e ▸ ho), h.up.putL k v⟩
theorem putL_length : ∀ (l : List api_Pair) (k v : Int), (putL l k v).length ≤ l.length + 1
  | [], _, _ => by simp [putL]
  | x :: l, k, v => by
    simp only [putL]
    split
    · have := putL_length l k v
      simp only [List.length_cons]
      omega
    · split <;> simp

/-- How many keys are lower. -/
def low : List api_Pair → Int → Nat
  | [], _ => 0
  | x :: l, k => if x.Key < k then low l k + 1 else 0
theorem low_le : ∀ (l : List api_Pair) (k : Int), low l k ≤ l.length
  | [], _ => Nat.le_refl _
  | x :: l, k => by
    simp only [low, List.length_cons]
    have := low_le l k
    split <;> omega
theorem low_lt : ∀ {l : List api_Pair} {k : Int} {i : Nat}, i < low l k → (l.getD i api_Pair.z).Key < k
  | x :: l, k, i, h => by
    simp only [low] at h
    split at h
    · rename_i h1
      cases i with
      | zero => exact h1
      | succ i => exact low_lt (l := l) (by omega)
    · omega
theorem low_ge : ∀ {l : List api_Pair} {k : Int} {i : Nat}, Up l → low l k ≤ i → i < l.length → k ≤ (l.getD i api_Pair.z).Key
  | x :: l, k, i, hu, h, hi => by
    simp only [low] at h
    split at h
    · rename_i h1
      cases i with
      | zero => omega
      | succ i => exact low_ge (l := l) hu.tail (by omega) (by simpa using hi)
    · rename_i h1
      cases i with
      | zero => show k ≤ x.Key; omega
      | succ i =>
        have hi' : i < l.length := by simpa using hi
        have hm : l.getD i api_Pair.z ∈ l := by
          simp [List.getD_eq_getElem?_getD, List.getElem?_eq_getElem hi', List.getElem_mem]
        have := hu.head _ hm
        show k ≤ (l.getD i api_Pair.z).Key
        omega
def hit (l : List api_Pair) (k : Int) : Bool := decide (low l k < l.length) && decide ((l.getD (low l k) api_Pair.z).Key = k)
theorem hit_look : ∀ {l : List api_Pair} {k : Int}, Up l → look l k = if hit l k = true then some (l.getD (low l k) api_Pair.z).Val else none
  | [], k, _ => by simp [look, hit, low]
  | x :: l, k, hu => by
    have ih := hit_look (k := k) hu.tail
    simp only [look, hit, low] at ih ⊢
    by_cases h1 : x.Key < k
    · rw [if_neg (by omega), ih]
      simp only [if_pos h1]
      simp
    · simp only [if_neg h1]
      by_cases h2 : x.Key = k
      · simp [h2]
      · simp only [if_neg h2]
        rw [look_none fun y hy => by have := hu.head y hy; omega]
        simp [h2]
theorem putL_hit : ∀ {l : List api_Pair} {k : Int} (v : Int), hit l k = true → putL l k v = l.set (low l k) ⟨k, v⟩
  | [], k, v, h => by simp [hit, low] at h
  | x :: l, k, v, h => by
    have ih := putL_hit (l := l) (k := k) v
    simp only [hit, low, putL] at ih h ⊢
    by_cases h1 : x.Key < k
    · simp only [if_pos h1] at h ⊢
      rw [ih (by simpa using h)]
      rfl
    · simp only [if_neg h1] at h ⊢
      have : x.Key = k := by simpa using h
      rw [if_pos this]
      rfl
theorem putL_miss : ∀ {l : List api_Pair} {k : Int} (v : Int), hit l k = false → putL l k v = l.take (low l k) ++ ⟨k, v⟩ :: l.drop (low l k)
  | [], k, v, h => by simp [low, putL]
  | x :: l, k, v, h => by
    have ih := putL_miss (l := l) (k := k) v
    simp only [hit, low, putL] at ih h ⊢
    by_cases h1 : x.Key < k
    · simp only [if_pos h1] at h ⊢
      rw [ih (by simpa using h)]
      rfl
    · simp only [if_neg h1] at h ⊢
      have : ¬ x.Key = k := by simpa using h
      rw [if_neg this]
      rfl

/-! ### Pairs are left out -/
theorem Up.filter {l : List api_Pair} (q : api_Pair → Bool) (h : Up l) : Up (l.filter q) := List.Pairwise.sublist List.filter_sublist h
theorem Tb.filter {l : List api_Pair} (q : api_Pair → Bool) (h : Tb l) : Tb (l.filter q) := ⟨fun x hx => h.ok x (List.mem_filter.1 hx).1, h.up.filter q⟩
theorem look_filter : ∀ (l : List api_Pair) (q : Int → Bool) (k : Int), look (l.filter fun x => q x.Key) k = if q k = true then look l k else none
  | [], q, k => by simp [look]
  | x :: l, q, k => by
    have ih := look_filter l q k
    rw [List.filter_cons]
    by_cases h1 : q x.Key = true
    · rw [if_pos h1, look, look, ih]
      by_cases h2 : x.Key = k
      · rw [if_pos h2, if_pos h2, if_pos (h2 ▸ h1)]
      · rw [if_neg h2, if_neg h2]
    · rw [if_neg h1, ih, look]
      by_cases h2 : x.Key = k
      · rw [if_neg (h2 ▸ h1), if_neg (h2 ▸ h1)]
      · rw [if_neg h2]
end Go.SyP
