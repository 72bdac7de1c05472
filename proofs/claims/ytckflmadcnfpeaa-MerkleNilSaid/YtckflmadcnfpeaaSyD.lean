/- How configurations move: a new row, a row written, a row that will not be turned any more. -/
import Derived.Test.YtckflmadcnfpeaaSyC
set_option linter.unusedVariables false
set_option linter.unusedSimpArgs false
namespace Go.Sy

theorem get_append_old {α : Type} {l : List α} {x y : α} {i : Nat} (h : l[i]? = some y) : (l ++ [x])[i]? = some y := by
  rw [List.getElem?_append_left (List.getElem?_eq_some_iff.1 h).1]
  exact h
theorem get_append_iff {α : Type} {l : List α} {x y : α} {i : Nat} : (l ++ [x])[i]? = some y ↔ l[i]? = some y ∨ (i = l.length ∧ x = y) := by
  rw [List.getElem?_append]
  split
  · rename_i h
    constructor
    · exact .inl
    · rintro (h1 | ⟨rfl, _⟩)
      · exact h1
      · omega
  · rename_i h
    constructor
    · intro h1
      have : i - l.length = 0 := by
        rcases Nat.eq_zero_or_pos (i - l.length) with h2 | h2
        · exact h2
        · rw [List.getElem?_eq_none (by simp; omega)] at h1
          cases h1
      rw [this] at h1
      simp at h1
      exact .inr ⟨by omega, h1⟩
    · rintro (h1 | ⟨rfl, rfl⟩)
      · have := (List.getElem?_eq_some_iff.1 h1).1
        omega
      · simp

section
variable {X : Ctx} {C : Conf}

theorem HRel.rowOf (h : HRel X C) {id : Nat} {x : Option Nat} (hx : C.μ[id]? = some x) : ∃ r, C.rows[id]? = some r := by
  have h1 := (List.getElem?_eq_some_iff.1 hx).1
  rw [h.len] at h1
  exact ⟨_, List.getElem?_eq_getElem h1⟩
theorem HRel.muOf (h : HRel X C) {id : Nat} {r : Row} (hx : C.rows[id]? = some r) : ∃ x, C.μ[id]? = some x := by
  have h1 := (List.getElem?_eq_some_iff.1 hx).1
  rw [← h.len] at h1
  exact ⟨_, List.getElem?_eq_getElem h1⟩

/-! ### Draws -/
def Conf.drew (C : Conf) : Conf := { C with w := C.w.drew }
theorem HRel.drew (h : HRel X C) : HRel X C.drew :=
  ⟨h.len, h.os, h.tape, ⟨h.output.1, Nat.le_trans h.output.2 (Nat.le_succ _)⟩, h.size, h.keep, h.shape, h.first, h.place, h.apart, fun id ob r h1 h2 => (h.rel id ob r h1 h2).mono (fun _ _ k => k) (fun _ _ _ => rfl) (fun _ _ k => k) (fun _ _ _ k => ⟨_, k, rfl⟩) (fun _ _ => rfl)⟩
theorem Ev.drew : Ev X C C.drew := ⟨Nat.le_refl _, fun _ _ _ => rfl, fun _ _ h => h, fun _ _ _ h => ⟨_, h, rfl⟩, fun _ _ h => h⟩

/-! ### A new block -/
def Conf.push (C : Conf) (o : Obj) (r : Row) : Conf := { μ := C.μ ++ [some C.w.heap.size], rows := C.rows ++ [r], w := C.w.alloc o }

theorem Conf.live_push (hl : C.μ.length = C.rows.length) {o : Obj} {r : Row} {b : Nat} (hb : b < C.w.heap.size) : (C.push o r).live b ↔ C.live b := by
  constructor
  · rintro ⟨id, s, h1, h2, h3⟩
    simp only [Conf.push] at h1 h2
    rcases get_append_iff.1 h1 with h1 | ⟨_, h1⟩
    · rcases get_append_iff.1 h2 with h2 | ⟨h2, _⟩
      · exact ⟨id, s, h1, h2, h3⟩
      · have := (List.getElem?_eq_some_iff.1 h1).1
        omega
    · injection h1 with h1
      omega
  · rintro ⟨id, s, h1, h2, h3⟩
    exact ⟨id, s, get_append_old h1, get_append_old h2, h3⟩

theorem Ev.push (h : HRel X C) (o : Obj) (r : Row) : Ev X C (C.push o r) :=
  ⟨by simp [Conf.push], fun b hb _ => heap_alloc_old _ _ hb, fun b hb hl => fun k => hl ((Conf.live_push h.len hb).1 k),
    fun b cs ty hc => ⟨cs, by rw [← hc]; exact heap_alloc_old _ _ (Array.getElem?_eq_some_iff.1 hc).1, rfl⟩, fun id x hx => get_append_old hx⟩

theorem HRel.push (h : HRel X C) {o : Obj} {r : Row} (hr : RowRel (C.push o r).w ((C.push o r).ok X) (C.push o r).μ (some C.w.heap.size) r) : HRel X (C.push o r) := by
  have ev := Ev.push h o r
  refine ⟨by simp [Conf.push, h.len], h.os, h.tape, h.output, Nat.le_trans h.size ev.size, ?_, ?_, ?_, ?_, ?_, ?_⟩
  · intro b hb ho
    rw [← h.keep b hb ho]
    exact heap_alloc_old _ _ (Nat.lt_of_lt_of_le hb h.size)
  · intro b cs ty hc
    obtain ⟨cs', h1, h2⟩ := h.shape b cs ty hc
    exact ⟨cs', by rw [← h1]; exact heap_alloc_old _ _ (Array.getElem?_eq_some_iff.1 h1).1, h2⟩
  · exact fun id x hx => get_append_old (h.first id x hx)
  · intro id b hb
    simp only [Conf.push] at hb ⊢
    rcases get_append_iff.1 hb with hb | ⟨_, hb⟩
    · have := h.place id b hb
      exact ⟨this.1, by simp; omega⟩
    · injection hb with hb
      subst hb
      exact ⟨.inr h.size, by simp⟩
  · intro i j b r' s h1 h2 h3 h4 h5 h6
    simp only [Conf.push] at h1 h2 h3 h4
    rcases get_append_iff.1 h1 with h1 | ⟨e1, h1⟩ <;> rcases get_append_iff.1 h2 with h2 | ⟨e2, h2⟩
    · have k1 := (List.getElem?_eq_some_iff.1 h1).1
      have k2 := (List.getElem?_eq_some_iff.1 h2).1
      rw [h.len] at k1 k2
      rw [List.getElem?_append_left k1] at h3
      rw [List.getElem?_append_left k2] at h4
      exact h.apart i j b r' s h1 h2 h3 h4 h5 h6
    · injection h2 with h2
      have := (h.place i b h1).2
      omega
    · injection h1 with h1
      have := (h.place j b h2).2
      omega
    · omega
  · intro id ob s h1 h2
    rcases get_append_iff.1 h1 with h1 | ⟨e1, h1⟩ <;> rcases get_append_iff.1 h2 with h2 | ⟨e2, h2⟩
    · refine (h.rel id ob s h1 h2).mono ev.ok ev.same ev.pre ev.shape ?_
      rintro b rfl
      exact heap_alloc_old _ _ (h.place id b h1).2
    · have := (List.getElem?_eq_some_iff.1 h1).1
      have := h.len
      omega
    · have := (List.getElem?_eq_some_iff.1 h2).1
      have := h.len
      omega
    · subst h1
      subst h2
      exact hr

/-! ### A row that has no block: an empty one -/
def Conf.virt (C : Conf) (r : Row) : Conf := { μ := C.μ ++ [none], rows := C.rows ++ [r], w := C.w }
theorem Conf.live_virt (hl : C.μ.length = C.rows.length) {r : Row} {b : Nat} : (C.virt r).live b ↔ C.live b := by
  constructor
  · rintro ⟨id, s, h1, h2, h3⟩
    simp only [Conf.virt] at h1 h2
    rcases get_append_iff.1 h1 with h1 | ⟨_, h1⟩
    · rcases get_append_iff.1 h2 with h2 | ⟨h2, _⟩
      · exact ⟨id, s, h1, h2, h3⟩
      · have := (List.getElem?_eq_some_iff.1 h1).1
        omega
    · cases h1
  · rintro ⟨id, s, h1, h2, h3⟩
    exact ⟨id, s, get_append_old h1, get_append_old h2, h3⟩
theorem Ev.virt (h : HRel X C) (r : Row) : Ev X C (C.virt r) :=
  ⟨Nat.le_refl _, fun _ _ _ => rfl, fun b _ hl => fun k => hl ((Conf.live_virt h.len).1 k), fun _ _ _ k => ⟨_, k, rfl⟩, fun id x hx => get_append_old hx⟩
theorem HRel.virt (h : HRel X C) {r : Row} (hr : RowRel C.w ((C.virt r).ok X) (C.virt r).μ none r) : HRel X (C.virt r) := by
  have ev := Ev.virt h r
  refine ⟨by simp [Conf.virt, h.len], h.os, h.tape, h.output, h.size, h.keep, h.shape, fun id x hx => get_append_old (h.first id x hx), ?_, ?_, ?_⟩
  · intro id b hb
    simp only [Conf.virt] at hb
    rcases get_append_iff.1 hb with hb | ⟨_, hb⟩
    · exact h.place id b hb
    · cases hb
  · intro i j b r' s h1 h2 h3 h4 h5 h6
    simp only [Conf.virt] at h1 h2 h3 h4
    rcases get_append_iff.1 h1 with h1 | ⟨e1, h1⟩ <;> rcases get_append_iff.1 h2 with h2 | ⟨e2, h2⟩
    · have k1 := (List.getElem?_eq_some_iff.1 h1).1
      have k2 := (List.getElem?_eq_some_iff.1 h2).1
      rw [h.len] at k1 k2
      rw [List.getElem?_append_left k1] at h3
      rw [List.getElem?_append_left k2] at h4
      exact h.apart i j b r' s h1 h2 h3 h4 h5 h6
    · cases h2
    · cases h1
    · cases h1
  · intro id ob s h1 h2
    rcases get_append_iff.1 h1 with h1 | ⟨e1, h1⟩ <;> rcases get_append_iff.1 h2 with h2 | ⟨e2, h2⟩
    · exact (h.rel id ob s h1 h2).mono ev.ok ev.same ev.pre ev.shape (fun _ _ => rfl)
    · have := (List.getElem?_eq_some_iff.1 h1).1
      have := h.len
      omega
    · have := (List.getElem?_eq_some_iff.1 h2).1
      have := h.len
      omega
    · subst h1
      subst h2
      exact hr

/-! ### A row that turns -/
/-- The row 'id' becomes r; its block, if anything, is what turns in the world. -/
structure Turns (X : Ctx) (C : Conf) (id b : Nat) (r r' : Row) (w' : World) : Prop where
  μ : C.μ[id]? = some (some b)
  row : C.rows[id]? = some r
  live : r.live = true
  os : w'.os = C.w.os
  tape : w'.tape = C.w.tape
  output : w'.output = C.w.output ∧ C.w.drawn ≤ w'.drawn
  size : w'.heap.size = C.w.heap.size
  other : ∀ k, k ≠ b → w'.heap[k]? = C.w.heap[k]?
  shape : ∀ cs ty, C.w.heap[b]? = some (.cells cs ty (0, 0)) → ∃ cs', w'.heap[b]? = some (.cells cs' ty (0, 0)) ∧ cs'.size = cs.size

def Conf.turn (C : Conf) (id : Nat) (r' : Row) (w' : World) : Conf := { μ := C.μ, rows := C.rows.set id r', w := w' }

theorem get_set_iff {α : Type} {l : List α} {i j : Nat} {x y : α} (h : i < l.length) : (l.set i x)[j]? = some y ↔ (i = j ∧ x = y) ∨ (i ≠ j ∧ l[j]? = some y) := by
  rw [List.getElem?_set]
  by_cases e : i = j
  · subst e; simp [h]
  · simp [e]

variable {id b : Nat} {r r' : Row} {w' : World}
theorem Conf.live_turn (h : HRel X C) (t : Turns X C id b r r' w') {k : Nat} (hk : (C.turn id r' w').live k) : C.live k := by
  obtain ⟨i, s, h1, h2, h3⟩ := hk
  simp only [Conf.turn] at h1 h2
  rcases (get_set_iff (List.getElem?_eq_some_iff.1 t.row).1).1 h2 with ⟨rfl, rfl⟩ | ⟨_, h2⟩
  · exact ⟨id, r, h1, t.row, t.live⟩
  · exact ⟨i, s, h1, h2, h3⟩

theorem Ev.turn (h : HRel X C) (t : Turns X C id b r r' w') : Ev X C (C.turn id r' w') :=
  ⟨Nat.le_of_eq t.size.symm, fun k _ hl => t.other k (fun e => hl (e ▸ ⟨id, r, t.μ, t.row, t.live⟩)), fun k _ hl hk => hl (Conf.live_turn h t hk),
    fun k cs ty hc => by
      by_cases e : k = b
      · subst e; exact t.shape cs ty hc
      · exact ⟨cs, (t.other k e).trans hc, rfl⟩, fun _ _ hx => hx⟩

theorem HRel.turn (h : HRel X C) (t : Turns X C id b r r' w') (hng : r' ≠ .gone ∨ r'.live = false) (hr : RowRel w' ((C.turn id r' w').ok X) C.μ (some b) r') : HRel X (C.turn id r' w') := by
  have ev := Ev.turn h t
  have hlt := (List.getElem?_eq_some_iff.1 t.row).1
  refine ⟨by simp [Conf.turn, h.len], t.os.trans h.os, t.tape.trans h.tape, ⟨t.output.1.trans h.output.1, Nat.le_trans h.output.2 t.output.2⟩, by rw [show (C.turn id r' w').w = w' from rfl, t.size]; exact h.size, ?_, ?_, h.first, ?_, ?_, ?_⟩
  · intro k hk ho
    rw [← h.keep k hk ho]
    refine t.other k ?_
    rintro rfl
    rcases (h.place id k t.μ).1 with h1 | h1
    · exact ho h1
    · omega
  · intro k cs ty hc
    obtain ⟨cs', h1, h2⟩ := h.shape k cs ty hc
    obtain ⟨cs2, h3, h4⟩ := ev.shape k cs' ty h1
    exact ⟨cs2, h3, h4.trans h2⟩
  · intro i k hk
    have := h.place i k hk
    exact ⟨this.1, by rw [show (C.turn id r' w').w = w' from rfl, t.size]; exact this.2⟩
  · intro i j k p q h1 h2 h3 h4 h5 h6
    simp only [Conf.turn] at h1 h2 h3 h4
    rcases (get_set_iff hlt).1 h3 with ⟨rfl, rfl⟩ | ⟨n1, h3⟩ <;> rcases (get_set_iff hlt).1 h4 with ⟨rfl, rfl⟩ | ⟨n2, h4⟩
    · rfl
    · exact h.apart id j k r q h1 h2 t.row h4 t.live h6
    · rw [t.μ] at h2
      injection h2 with h2
      injection h2 with h2
      subst h2
      refine h.apart i id b p r h1 t.μ h3 t.row h5 ?_
      intro e
      have := t.live
      rw [e] at this
      cases this
    · exact h.apart i j k p q h1 h2 h3 h4 h5 h6
  · intro i ob s h1 h2
    simp only [Conf.turn] at h1 h2
    rcases (get_set_iff hlt).1 h2 with ⟨rfl, rfl⟩ | ⟨n, h2⟩
    · rw [t.μ] at h1
      injection h1 with h1
      subst h1
      exact hr
    · by_cases hs : s = .gone
      · subst hs; cases ob <;> trivial
      · refine (h.rel i ob s h1 h2).mono ev.ok ev.same ev.pre ev.shape ?_
        rintro k rfl
        refine t.other k ?_
        rintro rfl
        exact n (h.apart id i k r s t.μ h1 t.row h2 t.live hs)

end
end Go.Sy
