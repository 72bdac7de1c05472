/- How configurations move: a new row, a row written, a row that will not be turned any more. -/
import Derived.Test.YtboaahlhgekbbaaSyC
set_option linter.unusedVariables false
set_option linter.unusedSimpArgs false
namespace Go.Sy

theorem get_append_old {α : Type} {l : List α} {x y : α} {i : Nat} (h : l[i]? = some y) : (l ++ [x])[i]? = some y := by
  rw [List.getElem?_append_left (List.getElem?_eq_some_iff.1 h).1]
  exact h
theorem get_append_iff {α : Type} {l : List α} {x y : α} {i : Nat} : (l ++ [x])[i]? = some y ↔ l[i]? = some y ∨ (i = l.length ∧ x = y) := by
  rw [List.getElem?_append]
  split
  · rename_i h
    constructor
    · exact .inl
    · rintro (h1 | ⟨rfl, _⟩)
      · exact h1
      · omega
  · rename_i h
    constructor
    · intro h1
      have : i - l.length = 0 := by
        rcases Nat.eq_zero_or_pos (i - l.length) with h2 | h2
        · exact h2
        · rw [List.getElem?_eq_none (by simp; omega)] at h1
          cases h1
      rw [this] at h1
      simp at h1
      exact .inr ⟨by omega, h1⟩
    · rintro (h1 | ⟨rfl, rfl⟩)
      · have := (List.getElem?_eq_some_iff.1 h1).1
        omega
      · simp

section
variable {X : Ctx} {C : Conf}

theorem HRel.rowOf (h : HRel X C) {id : Nat} {x : Option Nat} (hx : C.μ[id]? = some x) : ∃ r, C.rows[id]? = some r := by
  have h1 := (List.getElem?_eq_some_iff.1 hx).1
  rw [h.len] at h1
  exact ⟨_, List.getElem?_eq_getElem h1⟩
theorem HRel.muOf (h : HRel X C) {id : Nat} {r : Row} (hx : C.rows[id]? = some r) : ∃ x, C.μ[id]? = some x := by
  have h1 := (List.getElem?_eq_some_iff.1 hx).1
  rw [← h.len] at h1
  exact ⟨_, List.getElem?_eq_getElem h1⟩

/-! ### Draws -/
def Conf.drew (C : Conf) : Conf := { C with w := C.w.drew }
theorem Row.hasB_frame (r : Row) {w w' : World} {m : Option Nat} {b : Nat} (h : ∀ b, m = some b → w'.heap[b]? = w.heap[b]?) (hx : ∀ b ∈ r.ext w m, w'.heap[b]? = w.heap[b]?) : r.hasB w' m b ↔ r.hasB w m b := by
  unfold Row.hasB
  rw [Row.ext_frame r h hx]
theorem Conf.live_drew (C : Conf) {b : Nat} : C.drew.live b ↔ C.live b := by
  constructor
  · rintro ⟨id, m, r, h1, h2, h3, h4⟩
    exact ⟨id, m, r, h1, h2, h3, (Row.hasB_frame r (w := C.w) (w' := C.drew.w) (fun _ _ => rfl) (fun _ _ => rfl)).1 h4⟩
  · rintro ⟨id, m, r, h1, h2, h3, h4⟩
    exact ⟨id, m, r, h1, h2, h3, (Row.hasB_frame r (w := C.w) (w' := C.drew.w) (fun _ _ => rfl) (fun _ _ => rfl)).2 h4⟩
theorem HRel.drew (h : HRel X C) : HRel X C.drew :=
  ⟨h.len, h.os, h.tape, ⟨h.output.1, Nat.le_trans h.output.2 (Nat.le_succ _)⟩, h.size, h.keep, h.shape, h.first, h.place, h.apart,
    fun id m b r h1 h2 h3 => h.placeX id m b r h1 h2 (by rwa [Row.ext_frame r (w := C.w) (w' := C.drew.w) (fun _ _ => rfl) (fun _ _ => rfl)] at h3),
    fun i j m n b r s h1 h2 h3 h4 h5 h6 => by
      rw [Row.ext_frame r (w := C.w) (w' := C.drew.w) (fun _ _ => rfl) (fun _ _ => rfl)] at h5
      rw [Row.ext_frame s (w := C.w) (w' := C.drew.w) (fun _ _ => rfl) (fun _ _ => rfl)]
      exact h.apartX i j m n b r s h1 h2 h3 h4 h5 h6,
    fun id ob r h1 h2 => (h.rel id ob r h1 h2).mono (fun t b k => ⟨k.1, fun e => k.2.1 ((Conf.live_drew C).1 e), k.2.2⟩) (fun _ _ _ => rfl) (fun _ _ k => k) (fun _ _ _ k => ⟨_, k, rfl⟩) (fun _ _ => rfl) (fun _ _ => rfl)⟩
theorem Ev.drew : Ev X C C.drew := ⟨Nat.le_refl _, fun _ _ _ => rfl, fun _ _ h => fun e => h ((Conf.live_drew C).1 e), fun _ _ _ h => ⟨_, h, rfl⟩, fun _ _ h => h⟩

/-! ### A new block -/
def Conf.push (C : Conf) (o : Obj) (r : Row) : Conf := { μ := C.μ ++ [some C.w.heap.size], rows := C.rows ++ [r], w := C.w.alloc o }

/-- An old row's other blocks in a world with one more block. -/
theorem HRel.ext_alloc (h : HRel X C) (o : Obj) {id : Nat} {m : Option Nat} {r : Row} (h1 : C.μ[id]? = some m) (h2 : C.rows[id]? = some r) : r.ext (C.w.alloc o) m = r.ext C.w m :=
  Row.ext_frame r (fun b e => heap_alloc_old _ _ (h.place id b (e ▸ h1)).2) fun b hb => heap_alloc_old _ _ (h.placeX id m b r h1 h2 hb).2
theorem Conf.live_push (h : HRel X C) {o : Obj} {r : Row} (hr : ∀ w m, r.ext w m = []) {b : Nat} (hb : b < C.w.heap.size) : (C.push o r).live b ↔ C.live b := by
  have hl := h.len
  constructor
  · rintro ⟨id, m, s, h1, h2, h3, h4⟩
    simp only [Conf.push] at h1 h2
    rcases get_append_iff.1 h1 with h1 | ⟨_, h1⟩
    · rcases get_append_iff.1 h2 with h2 | ⟨h2, _⟩
      · refine ⟨id, m, s, h1, h2, h3, ?_⟩
        unfold Row.hasB at h4 ⊢
        rwa [show (C.push o r).w = C.w.alloc o from rfl, h.ext_alloc o h1 h2] at h4
      · have := (List.getElem?_eq_some_iff.1 h1).1
        omega
    · rcases get_append_iff.1 h2 with h2 | ⟨_, h2⟩
      · have := (List.getElem?_eq_some_iff.1 h2).1
        omega
      · subst h2
        rcases h4 with h4 | h4
        · rw [← h1] at h4
          injection h4 with h4
          omega
        · rw [hr] at h4; cases h4
  · rintro ⟨id, m, s, h1, h2, h3, h4⟩
    refine ⟨id, m, s, get_append_old h1, get_append_old h2, h3, ?_⟩
    unfold Row.hasB at h4 ⊢
    rwa [show (C.push o r).w = C.w.alloc o from rfl, h.ext_alloc o h1 h2]

theorem Ev.push (h : HRel X C) (o : Obj) (r : Row) (hr : ∀ w m, r.ext w m = [] := by intros; rfl) : Ev X C (C.push o r) :=
  ⟨by simp [Conf.push], fun b hb _ => heap_alloc_old _ _ hb, fun b hb hl => fun k => hl ((Conf.live_push h hr hb).1 k),
    fun b cs ty hc => ⟨cs, by rw [← hc]; exact heap_alloc_old _ _ (Array.getElem?_eq_some_iff.1 hc).1, rfl⟩, fun id x hx => get_append_old hx⟩

theorem HRel.push (h : HRel X C) {o : Obj} {r : Row} (hr : RowRel (C.push o r).w ((C.push o r).ok X) (C.push o r).μ (some C.w.heap.size) r) (hne : ∀ w m, r.ext w m = [] := by intros; rfl) : HRel X (C.push o r) := by
  have ev := Ev.push h o r hne
  have hold : ∀ {i b : Nat} {m : Option Nat} {s : Row}, (C.push o r).μ[i]? = some m → (C.push o r).rows[i]? = some s → b ∈ s.ext (C.push o r).w m → C.μ[i]? = some m ∧ C.rows[i]? = some s ∧ b ∈ s.ext C.w m := by
    intro i b m s h1 h2 h3
    simp only [Conf.push] at h1 h2
    have hl := h.len
    rcases get_append_iff.1 h1 with h1 | ⟨e1, h1⟩ <;> rcases get_append_iff.1 h2 with h2 | ⟨e2, h2⟩
    · exact ⟨h1, h2, by rwa [show (C.push o r).w = C.w.alloc o from rfl, h.ext_alloc o h1 h2] at h3⟩
    · have := (List.getElem?_eq_some_iff.1 h1).1
      omega
    · have := (List.getElem?_eq_some_iff.1 h2).1
      omega
    · subst h2
      rw [hne] at h3
      cases h3
  refine ⟨by simp [Conf.push, h.len], h.os, h.tape, h.output, Nat.le_trans h.size ev.size, ?_, ?_, ?_, ?_, ?_, ?_, ?_, ?_⟩
  · intro b hb ho
    rw [← h.keep b hb ho]
    exact heap_alloc_old _ _ (Nat.lt_of_lt_of_le hb h.size)
  · intro b cs ty hc
    obtain ⟨cs', h1, h2⟩ := h.shape b cs ty hc
    exact ⟨cs', by rw [← h1]; exact heap_alloc_old _ _ (Array.getElem?_eq_some_iff.1 h1).1, h2⟩
  · exact fun id x hx => get_append_old (h.first id x hx)
  · intro id b hb
    simp only [Conf.push] at hb ⊢
    rcases get_append_iff.1 hb with hb | ⟨_, hb⟩
    · have := h.place id b hb
      exact ⟨this.1, by simp; omega⟩
    · injection hb with hb
      subst hb
      exact ⟨.inr h.size, by simp⟩
  · intro i j b r' s h1 h2 h3 h4 h5 h6
    simp only [Conf.push] at h1 h2 h3 h4
    rcases get_append_iff.1 h1 with h1 | ⟨e1, h1⟩ <;> rcases get_append_iff.1 h2 with h2 | ⟨e2, h2⟩
    · have k1 := (List.getElem?_eq_some_iff.1 h1).1
      have k2 := (List.getElem?_eq_some_iff.1 h2).1
      rw [h.len] at k1 k2
      rw [List.getElem?_append_left k1] at h3
      rw [List.getElem?_append_left k2] at h4
      exact h.apart i j b r' s h1 h2 h3 h4 h5 h6
    · injection h2 with h2
      have := (h.place i b h1).2
      omega
    · injection h1 with h1
      have := (h.place j b h2).2
      omega
    · omega
  · intro id m b s h1 h2 h3
    obtain ⟨h1, h2, h3⟩ := hold h1 h2 h3
    have := h.placeX id m b s h1 h2 h3
    exact ⟨this.1, Nat.lt_of_lt_of_le this.2 ev.size⟩
  · intro i j m n b p q h1 h2 h3 h4 h5 h6
    obtain ⟨k1, k3, k5⟩ := hold h1 h3 h5
    refine ⟨?_, fun h7 => ?_⟩
    · have hb := (h.placeX i m b p k1 k3 k5).2
      simp only [Conf.push] at h2 h4
      rcases get_append_iff.1 h2 with h2 | ⟨e2, h2⟩
      · have k2 := (List.getElem?_eq_some_iff.1 h2).1
        rw [h.len] at k2
        rw [List.getElem?_append_left k2] at h4
        exact (h.apartX i j m n b p q k1 h2 k3 h4 k5 h6).1
      · rw [← h2]
        intro e
        injection e with e
        omega
    · obtain ⟨k2, k4, k7⟩ := hold h2 h4 h7
      exact (h.apartX i j m n b p q k1 k2 k3 k4 k5 h6).2 k7
  · intro id ob s h1 h2
    rcases get_append_iff.1 h1 with h1 | ⟨e1, h1⟩ <;> rcases get_append_iff.1 h2 with h2 | ⟨e2, h2⟩
    · refine (h.rel id ob s h1 h2).mono ev.ok ev.same ev.pre ev.shape ?_ ?_
      · rintro b rfl
        exact heap_alloc_old _ _ (h.place id b h1).2
      · intro b hb
        exact heap_alloc_old _ _ (h.placeX id ob b s h1 h2 hb).2
    · have := (List.getElem?_eq_some_iff.1 h1).1
      have := h.len
      omega
    · have := (List.getElem?_eq_some_iff.1 h2).1
      have := h.len
      omega
    · subst h1
      subst h2
      exact hr

/-! ### A row that has no block: an empty one -/
def Conf.virt (C : Conf) (r : Row) : Conf := { μ := C.μ ++ [none], rows := C.rows ++ [r], w := C.w }
theorem Conf.live_virt (hl : C.μ.length = C.rows.length) {r : Row} (hr : ∀ w m, r.ext w m = []) {b : Nat} : (C.virt r).live b ↔ C.live b := by
  constructor
  · rintro ⟨id, m, s, h1, h2, h3, h4⟩
    simp only [Conf.virt] at h1 h2
    rcases get_append_iff.1 h1 with h1 | ⟨_, h1⟩
    · rcases get_append_iff.1 h2 with h2 | ⟨h2, _⟩
      · exact ⟨id, m, s, h1, h2, h3, h4⟩
      · have := (List.getElem?_eq_some_iff.1 h1).1
        omega
    · rcases get_append_iff.1 h2 with h2 | ⟨_, h2⟩
      · have := (List.getElem?_eq_some_iff.1 h2).1
        omega
      · subst h2
        rw [← h1] at h4
        rcases h4 with h4 | h4
        · cases h4
        · rw [hr] at h4; cases h4
  · rintro ⟨id, m, s, h1, h2, h3, h4⟩
    exact ⟨id, m, s, get_append_old h1, get_append_old h2, h3, h4⟩
theorem Ev.virt (h : HRel X C) (r : Row) (hr : ∀ w m, r.ext w m = [] := by intros; rfl) : Ev X C (C.virt r) :=
  ⟨Nat.le_refl _, fun _ _ _ => rfl, fun b _ hl => fun k => hl ((Conf.live_virt h.len hr).1 k), fun _ _ _ k => ⟨_, k, rfl⟩, fun id x hx => get_append_old hx⟩
theorem HRel.virt (h : HRel X C) {r : Row} (hr : RowRel C.w ((C.virt r).ok X) (C.virt r).μ none r) (hne : ∀ w m, r.ext w m = [] := by intros; rfl) : HRel X (C.virt r) := by
  have ev := Ev.virt h r hne
  have hold : ∀ {i : Nat} {m : Option Nat} {s : Row}, (C.virt r).μ[i]? = some m → (C.virt r).rows[i]? = some s → (C.μ[i]? = some m ∧ C.rows[i]? = some s) ∨ (m = none ∧ s = r) := by
    intro i m s h1 h2
    simp only [Conf.virt] at h1 h2
    have hl := h.len
    rcases get_append_iff.1 h1 with h1 | ⟨e1, h1⟩ <;> rcases get_append_iff.1 h2 with h2 | ⟨e2, h2⟩
    · exact .inl ⟨h1, h2⟩
    · have := (List.getElem?_eq_some_iff.1 h1).1
      omega
    · have := (List.getElem?_eq_some_iff.1 h2).1
      omega
    · exact .inr ⟨h1.symm, h2.symm⟩
  refine ⟨by simp [Conf.virt, h.len], h.os, h.tape, h.output, h.size, h.keep, h.shape, fun id x hx => get_append_old (h.first id x hx), ?_, ?_, ?_, ?_, ?_⟩
  · intro id b hb
    simp only [Conf.virt] at hb
    rcases get_append_iff.1 hb with hb | ⟨_, hb⟩
    · exact h.place id b hb
    · cases hb
  · intro i j b r' s h1 h2 h3 h4 h5 h6
    rcases hold h1 h3 with ⟨h1, h3⟩ | ⟨e, _⟩
    · rcases hold h2 h4 with ⟨h2, h4⟩ | ⟨e, _⟩
      · exact h.apart i j b r' s h1 h2 h3 h4 h5 h6
      · cases e
    · cases e
  · intro id m b s h1 h2 h3
    rcases hold h1 h2 with ⟨h1, h2⟩ | ⟨_, rfl⟩
    · exact h.placeX id m b s h1 h2 h3
    · rw [hne] at h3; cases h3
  · intro i j m n b p q h1 h2 h3 h4 h5 h6
    rcases hold h1 h3 with ⟨h1, h3⟩ | ⟨_, rfl⟩
    · rcases hold h2 h4 with ⟨h2, h4⟩ | ⟨rfl, rfl⟩
      · exact h.apartX i j m n b p q h1 h2 h3 h4 h5 h6
      · exact ⟨fun e => (by cases e), fun h7 => (by rw [hne] at h7; cases h7)⟩
    · rw [hne] at h5; cases h5
  · intro id ob s h1 h2
    rcases get_append_iff.1 h1 with h1 | ⟨e1, h1⟩ <;> rcases get_append_iff.1 h2 with h2 | ⟨e2, h2⟩
    · exact (h.rel id ob s h1 h2).mono ev.ok ev.same ev.pre ev.shape (fun _ _ => rfl) (fun _ _ => rfl)
    · have := (List.getElem?_eq_some_iff.1 h1).1
      have := h.len
      omega
    · have := (List.getElem?_eq_some_iff.1 h2).1
      have := h.len
      omega
    · subst h1
      subst h2
      exact hr

/-! ### A row that turns -/
/-- The row 'id' becomes r; its block, if anything, is what turns in the world. -/
structure Turns (X : Ctx) (C : Conf) (id b : Nat) (r r' : Row) (w' : World) : Prop where
  μ : C.μ[id]? = some (some b)
  row : C.rows[id]? = some r
  live : r.live = true
  os : w'.os = C.w.os
  tape : w'.tape = C.w.tape
  output : w'.output = C.w.output ∧ C.w.drawn ≤ w'.drawn
  size : w'.heap.size = C.w.heap.size
  other : ∀ k, k ≠ b → w'.heap[k]? = C.w.heap[k]?
  shape : ∀ cs ty, C.w.heap[b]? = some (.cells cs ty (0, 0)) → ∃ cs', w'.heap[b]? = some (.cells cs' ty (0, 0)) ∧ cs'.size = cs.size
  noX : ∀ w m, r.ext w m = [] := by intros; rfl
  noX' : ∀ w m, r'.ext w m = [] := by intros; rfl

def Conf.turn (C : Conf) (id : Nat) (r' : Row) (w' : World) : Conf := { μ := C.μ, rows := C.rows.set id r', w := w' }

theorem get_set_iff {α : Type} {l : List α} {i j : Nat} {x y : α} (h : i < l.length) : (l.set i x)[j]? = some y ↔ (i = j ∧ x = y) ∨ (i ≠ j ∧ l[j]? = some y) := by
  rw [List.getElem?_set]
  by_cases e : i = j
  · subst e; simp [h]
  · simp [e]

variable {id b : Nat} {r r' : Row} {w' : World}
/-- A row but the one that turns: its blocks are as they were. -/
theorem HRel.turn_same (h : HRel X C) (t : Turns X C id b r r' w') {i : Nat} {m : Option Nat} {s : Row} (n : id ≠ i) (h1 : C.μ[i]? = some m) (h2 : C.rows[i]? = some s) (hs : s ≠ .gone) :
    (∀ k, m = some k → w'.heap[k]? = C.w.heap[k]?) ∧ ∀ c ∈ s.ext C.w m, w'.heap[c]? = C.w.heap[c]? := by
  refine ⟨fun k e => t.other k ?_, fun c hc => t.other c ?_⟩
  · rintro rfl
    exact n (h.apart id i k r s t.μ (e ▸ h1) t.row h2 t.live hs)
  · rintro rfl
    exact n (h.apartB t.μ h1 t.row h2 t.live hs (.inl rfl) (.inr hc))
theorem Conf.live_turn (h : HRel X C) (t : Turns X C id b r r' w') {k : Nat} (hk : (C.turn id r' w').live k) : C.live k := by
  obtain ⟨i, m, s, h1, h2, h3, h4⟩ := hk
  simp only [Conf.turn] at h1 h2 h4
  rcases (get_set_iff (List.getElem?_eq_some_iff.1 t.row).1).1 h2 with ⟨rfl, rfl⟩ | ⟨n, h2⟩
  · rcases h4 with h4 | h4
    · exact Conf.live_mk (h4 ▸ h1) t.row t.live
    · rw [t.noX'] at h4; cases h4
  · obtain ⟨q1, q2⟩ := h.turn_same t n h1 h2 (by rintro rfl; cases h3)
    exact ⟨i, m, s, h1, h2, h3, (Row.hasB_frame s q1 q2).1 h4⟩

theorem Ev.turn (h : HRel X C) (t : Turns X C id b r r' w') : Ev X C (C.turn id r' w') :=
  ⟨Nat.le_of_eq t.size.symm, fun k _ hl => t.other k (fun e => hl (e ▸ Conf.live_mk t.μ t.row t.live)), fun k _ hl hk => hl (Conf.live_turn h t hk),
    fun k cs ty hc => by
      by_cases e : k = b
      · subst e; exact t.shape cs ty hc
      · exact ⟨cs, (t.other k e).trans hc, rfl⟩, fun _ _ hx => hx⟩

theorem HRel.turn (h : HRel X C) (t : Turns X C id b r r' w') (hng : r' ≠ .gone ∨ r'.live = false) (hr : RowRel w' ((C.turn id r' w').ok X) C.μ (some b) r') : HRel X (C.turn id r' w') := by
  have ev := Ev.turn h t
  have hlt := (List.getElem?_eq_some_iff.1 t.row).1
  have hold : ∀ {i c : Nat} {m : Option Nat} {s : Row}, (C.turn id r' w').μ[i]? = some m → (C.turn id r' w').rows[i]? = some s → c ∈ s.ext w' m → id ≠ i ∧ C.μ[i]? = some m ∧ C.rows[i]? = some s ∧ c ∈ s.ext C.w m := by
    intro i c m s h1 h2 h3
    simp only [Conf.turn] at h1 h2
    rcases (get_set_iff hlt).1 h2 with ⟨rfl, rfl⟩ | ⟨n, h2⟩
    · rw [t.noX'] at h3; cases h3
    · obtain ⟨q1, q2⟩ := h.turn_same t n h1 h2 (by rintro rfl; cases h3)
      exact ⟨n, h1, h2, by rwa [Row.ext_frame s q1 q2] at h3⟩
  refine ⟨by simp [Conf.turn, h.len], t.os.trans h.os, t.tape.trans h.tape, ⟨t.output.1.trans h.output.1, Nat.le_trans h.output.2 t.output.2⟩, by rw [show (C.turn id r' w').w = w' from rfl, t.size]; exact h.size, ?_, ?_, h.first, ?_, ?_, ?_, ?_, ?_⟩
  · intro k hk ho
    rw [← h.keep k hk ho]
    refine t.other k ?_
    rintro rfl
    rcases (h.place id k t.μ).1 with h1 | h1
    · exact ho h1
    · omega
  · intro k cs ty hc
    obtain ⟨cs', h1, h2⟩ := h.shape k cs ty hc
    obtain ⟨cs2, h3, h4⟩ := ev.shape k cs' ty h1
    exact ⟨cs2, h3, h4.trans h2⟩
  · intro i k hk
    have := h.place i k hk
    exact ⟨this.1, by rw [show (C.turn id r' w').w = w' from rfl, t.size]; exact this.2⟩
  · intro i j k p q h1 h2 h3 h4 h5 h6
    simp only [Conf.turn] at h1 h2 h3 h4
    rcases (get_set_iff hlt).1 h3 with ⟨rfl, rfl⟩ | ⟨n1, h3⟩ <;> rcases (get_set_iff hlt).1 h4 with ⟨rfl, rfl⟩ | ⟨n2, h4⟩
    · rfl
    · exact h.apart id j k r q h1 h2 t.row h4 t.live h6
    · rw [t.μ] at h2
      injection h2 with h2
      injection h2 with h2
      subst h2
      refine h.apart i id b p r h1 t.μ h3 t.row h5 ?_
      intro e
      have := t.live
      rw [e] at this
      cases this
    · exact h.apart i j k p q h1 h2 h3 h4 h5 h6
  · intro i m c s h1 h2 h3
    obtain ⟨_, k1, k2, k3⟩ := hold h1 h2 h3
    have := h.placeX i m c s k1 k2 k3
    exact ⟨this.1, by rw [show (C.turn id r' w').w = w' from rfl, t.size]; exact this.2⟩
  · intro i j m n c p q h1 h2 h3 h4 h5 h6
    obtain ⟨n1, k1, k3, k5⟩ := hold h1 h3 h5
    refine ⟨?_, fun h7 => ?_⟩
    · simp only [Conf.turn] at h2 h4
      rcases (get_set_iff hlt).1 h4 with ⟨rfl, rfl⟩ | ⟨n2, h4⟩
      · exact (h.apartX i id m n c p r k1 h2 k3 t.row k5 (by intro e; have := t.live; rw [e] at this; cases this)).1
      · exact (h.apartX i j m n c p q k1 h2 k3 h4 k5 h6).1
    · obtain ⟨_, k2, k4, k7⟩ := hold h2 h4 h7
      exact (h.apartX i j m n c p q k1 k2 k3 k4 k5 h6).2 k7
  · intro i ob s h1 h2
    simp only [Conf.turn] at h1 h2
    rcases (get_set_iff hlt).1 h2 with ⟨rfl, rfl⟩ | ⟨n, h2⟩
    · rw [t.μ] at h1
      injection h1 with h1
      subst h1
      exact hr
    · by_cases hs : s = .gone
      · subst hs; cases ob <;> trivial
      · refine (h.rel i ob s h1 h2).mono ev.ok ev.same ev.pre ev.shape ?_ ?_
        · exact (h.turn_same t n h1 h2 hs).1
        · exact (h.turn_same t n h1 h2 hs).2

end
end Go.Sy
