/- Sets of keys as lists of spans: the plain mathematics. No program in sight. -/
set_option linter.unusedVariables false
namespace Go.SyP.Sets

abbrev Sp := Int × Int
def Ok (x : Sp) : Prop := 0 ≤ x.1 ∧ x.1 < x.2 ∧ x.2 ≤ 4096
instance (x : Sp) : Decidable (Ok x) := inferInstanceAs (Decidable (_ ∧ _ ∧ _))
def mem (l : List Sp) (k : Int) : Prop := ∃ x ∈ l, x.1 ≤ k ∧ k < x.2
structure Canon (l : List Sp) : Prop where
 ok : ∀ x ∈ l, Ok x
 apart : l.Pairwise fun x y => x.2 < y.1

theorem mem_nil {k : Int} : ¬ mem [] k := by rintro ⟨x, h, _⟩; cases h
theorem mem_cons {x : Sp} {l : List Sp} {k : Int} : mem (x :: l) k ↔ (x.1 ≤ k ∧ k < x.2) ∨ mem l k := by
 constructor
 ·rintro ⟨y, hy, h⟩
  rcases List.mem_cons.1 hy with rfl | hy
  ·exact .inl h
  ·exact .inr ⟨y, hy, h⟩
 ·rintro (h | ⟨y, hy, h⟩)
  ·exact ⟨x, List.mem_cons_self .., h⟩
  ·exact ⟨y, List.mem_cons_of_mem _ hy, h⟩
theorem mem_append {l m : List Sp} {k : Int} : mem (l ++ m) k ↔ mem l k ∨ mem m k := by
 induction l with
 | nil => simp [mem_nil]
 | cons x l ih => rw [List.cons_append, mem_cons, mem_cons, ih, or_assoc]
theorem Canon.nil : Canon [] := ⟨fun x h => by simp at h, .nil⟩
theorem Canon.tail {x : Sp} {l : List Sp} (h : Canon (x :: l)) : Canon l := ⟨fun y hy => h.ok y (List.mem_cons_of_mem _ hy), (List.pairwise_cons.1 h.apart).2⟩
theorem Canon.head {x : Sp} {l : List Sp} (h : Canon (x :: l)) : ∀ y ∈ l, x.2 < y.1 := (List.pairwise_cons.1 h.apart).1
theorem Canon.above {x : Sp} {l : List Sp} (h : Canon (x :: l)) {k : Int} (m : mem l k) : x.2 < k := by
 obtain ⟨y, hy, h1, h2⟩ := m
 have := h.head y hy
 omega

theorem Canon.unique : ∀ {l m : List Sp}, Canon l → Canon m → (∀ k, mem l k ↔ mem m k) → l = m
 | [], [], _, _, _ => rfl
 | [], y :: m, _, hm, e => by
  have := hm.ok y (List.mem_cons_self ..)
  unfold Ok at this
  exact absurd ((e y.1).2 (mem_cons.2 (.inl ⟨by omega, by omega⟩))) mem_nil
 | x :: l, [], hl, _, e => by
  have := hl.ok x (List.mem_cons_self ..)
  unfold Ok at this
  exact absurd ((e x.1).1 (mem_cons.2 (.inl ⟨by omega, by omega⟩))) mem_nil
 | x :: l, y :: m, hl, hm, e => by
  have ox := hl.ok x (List.mem_cons_self ..)
  have oy := hm.ok y (List.mem_cons_self ..)
  unfold Ok at ox oy
  have e1 : x.1 = y.1 := by
   have a := (e x.1).1 (mem_cons.2 (.inl ⟨by omega, by omega⟩))
   have b := (e y.1).2 (mem_cons.2 (.inl ⟨by omega, by omega⟩))
   have a' : y.1 ≤ x.1 := by
    rcases mem_cons.1 a with a | a
    ·exact a.1
    ·have := hm.above a; omega
   have b' : x.1 ≤ y.1 := by
    rcases mem_cons.1 b with a | a
    ·exact a.1
    ·have := hl.above a; omega
   omega
  have e2 : x.2 = y.2 := by
   apply Classical.byContradiction
   intro hne
   rcases Int.lt_or_gt_of_ne hne with h | h
   ·have := (e x.2).2 (mem_cons.2 (.inl ⟨by omega, by omega⟩))
    rcases mem_cons.1 this with a | a
    ·omega
    ·have := hl.above a; omega
   ·have := (e y.2).1 (mem_cons.2 (.inl ⟨by omega, by omega⟩))
    rcases mem_cons.1 this with a | a
    ·omega
    ·have := hm.above a; omega
  have ex : x = y := Prod.ext e1 e2
  subst ex
  rw [Canon.unique hl.tail hm.tail fun k => ?_]
  have := e k
  rw [mem_cons, mem_cons] at this
  constructor
  ·intro h
   have h2 := hl.above h
   rcases this.1 (.inr h) with h3 | h3
   ·omega
   ·exact h3
  ·intro h
   have h2 := hm.above h
   rcases this.2 (.inr h) with h3 | h3
   ·omega
   ·exact h3

def keysOf (m : Nat → Bool) : List Bool := (List.range 4096).map m
def memB (l : List Sp) (k : Int) : Bool := l.any fun x => decide (x.1 ≤ k) && decide (k < x.2)
def keys (l : List Sp) : List Bool := keysOf fun k => memB (l.filter fun x => decide (Ok x)) k

def cut (x y : Sp) : Option Sp := if max x.1 y.1 < min x.2 y.2 then some (max x.1 y.1, min x.2 y.2) else none
def both (a b : List Sp) : List Sp := a.flatMap fun x => b.filterMap fun y => cut x y
def size (l : List Sp) : Int := l.foldr (fun x n => x.2 - x.1 + n) 0
end Go.SyP.Sets
