/- A slice of addresses in a struct of one field, with the objects it leads to, as one row. -/
import Derived.Test.YtboaahlhgekbbaaSyObj
set_option linter.unusedVariables false
set_option linter.unusedSimpArgs false
set_option linter.unusedSectionVars false
namespace Go.Sy

def adrOf : Value → Option Nat
  | .pointer (some ⟨a, _, _⟩) => some a
  | _ => none
/-- The addresses in the first n cells. -/
def adrs (cs : Array Value) (n : Nat) : List Nat := (cs.toList.take n).filterMap adrOf
def swExt (w : World) : Option Nat → List Nat
  | some q =>
    match w.heap[q]? with
    | some (.cells cs _ _) =>
      match (cs[0]? : Option Value) with
      | some (.slice (some ⟨b, _, _⟩) n _) =>
        b :: (match w.heap[b]? with
          | some (.cells ds _ _) => adrs ds n
          | _ => [])
      | _ => []
    | _ => []
  | none => []

structure SwRel {α : Type} (e : α → List DV) (he : ∀ x, NLs (e x)) (ty tq te : TypeId) (I : List Nat → (Nat → α) → Prop) (w : World) (ok : Bool → Nat → Prop) (q : Nat) (b : Option Nat) (l : List Nat) (M : Nat → α) : Prop where
  box : ∃ sv, sv.oneCell' = true ∧ w.heap[q]? = some (.cells #[sv] tq (0, 0)) ∧ AVR w ok [some q, b] (.own 1 1 0 l.length) sv
  flat : RowRel w ok [] b (.flat false 1 te l.length (vec eA 0 l))
  objs : (arO e he ty l M).rel w ok none
  qn : q ∉ l
  bq : b ≠ some q
  bn : ∀ x, b = some x → x ∉ l
  inv : I l M

theorem sw_ext {α : Type} {e : α → List DV} {he : ∀ x, NLs (e x)} {ty tq te : TypeId} {I : List Nat → (Nat → α) → Prop} {w : World} {ok : Bool → Nat → Prop} {q : Nat} {b : Option Nat} {l : List Nat} {M : Nat → α} (h : SwRel e he ty tq te I w ok q b l M) : swExt w (some q) = b.toList ++ l := by
  obtain ⟨sv, _, h1, h2⟩ := h.box
  simp only [swExt, h1]
  generalize hn : l.length = n at h2
  cases h2 with
  | own0 h3 =>
    simp at h3
    subst h3
    have : l = [] := List.length_eq_zero_iff.1 hn
    subst this
    rfl
  | own h3 hh h4 h5 h6 =>
    rename_i x c cs ty'
    simp at h3
    subst h3
    have hf := h.flat
    obtain ⟨ds, vs, f1, f2, f3, f4, f5⟩ := hf
    simp only [List.getElem?_toArray, List.getElem?_cons_zero, Array.getElem?_size, f1]
    have key : ds.toList.take n = l.map fun a => Value.pointer (some ⟨a, 0, none⟩) := by
      apply List.ext_getElem?
      intro i
      by_cases hi : i < n
      · have hi' : i < l.length := by omega
        rw [List.getElem?_take_of_lt hi, List.getElem?_map, List.getElem?_eq_getElem hi']
        have g3 := f3 i (by omega)
        have g4 := f4 i (by omega)
        have g5 := f5 i 0
        generalize vs i = u at g3 g4 g5
        cases g4 with
        | cons o1 o2 o3 =>
          rename_i v vs'
          have := g5 v (by omega) rfl
          simp only [Nat.mul_one, Nat.add_zero] at this
          rw [Array.getElem?_toList, this]
          cases o2 with
          | v hx =>
            simp [hi']
      · refine (List.getElem?_eq_none ?_).trans (List.getElem?_eq_none ?_).symm
        · rw [List.length_take]; omega
        · rw [List.length_map]; omega
    simp only [adrs, key, List.filterMap_map, Option.toList_some, List.cons_append, List.nil_append]
    congr 1
    have : (adrOf ∘ fun a => Value.pointer (some ⟨a, 0, none⟩)) = some := by
      funext a
      rfl
    rw [this, List.filterMap_some]

def swO {α : Type} (e : α → List DV) (he : ∀ x, NLs (e x)) (ty tq te : TypeId) (I : List Nat → (Nat → α) → Prop) : ObjR where
  ext := swExt
  rel := fun w ok m => ∃ q b l M, m = some q ∧ SwRel e he ty tq te I w ok q b l M
  ext_frame := by
    intro w w' m h hx
    cases m with
    | none => rfl
    | some q =>
      have h1 := h q rfl
      unfold swExt at hx ⊢
      simp only [h1]
      split
      · rename_i cs ty' z hc
        simp only [hc] at hx
        split
        · rename_i b o z n c hb
          simp only [hb] at hx
          rw [hx b (by simp)]
        · rfl
      · rfl
  rel_frame := by
    rintro w w' ok ok' m ⟨q, b, l, M, rfl, h⟩ hok hw hb hx
    have hq := hb q rfl
    have hx : ∀ x ∈ b.toList ++ l, w'.heap[x]? = w.heap[x]? := fun x hm => hx x (by rw [sw_ext h]; exact hm)
    refine ⟨q, b, l, M, rfl, ?_, ?_, ?_, h.qn, h.bq, h.bn, h.inv⟩
    · obtain ⟨sv, h0, h1, h2⟩ := h.box
      refine ⟨sv, h0, hq.trans h1, ?_⟩
      generalize hn : l.length = n at h2 ⊢
      cases h2 with
      | own0 h3 => exact .own0 h3
      | own h3 hh h4 h5 h6 =>
        rename_i x c cs ty'
        simp at h3
        subst h3
        exact .own rfl ((hx x (by simp)).trans hh) h4 h5 h6
    · have hf := h.flat
      cases b with
      | none => exact hf
      | some x =>
        obtain ⟨cs, vs, f1, f2, f3, f4, f5⟩ := hf
        exact ⟨cs, vs, (hx x (by simp)).trans f1, f2, f3, fun i hi => (f4 i hi).mono hok hw, f5⟩
    · exact (arO e he ty l M).rel_frame h.objs hok hw (fun _ h => by cases h) (fun x hm => hx x (List.mem_append.2 (.inr hm)))
  perm := by
    rintro w ok okr m hok ⟨q, b, l, M, rfl, h⟩
    refine ⟨q, b, l, M, rfl, ?_, ?_, ?_, h.qn, h.bq, h.bn, h.inv⟩
    · obtain ⟨sv, h0, h1, h2⟩ := h.box
      exact ⟨sv, h0, h1, h2.perm hok (.own _ _ _ _)⟩
    · exact h.flat.perm hok (nr_vec nlA)
    · exact (arO e he ty l M).perm hok h.objs

section
variable {X : Ctx} {C : Conf} {α : Type} {e : α → List DV} {he : ∀ x, NLs (e x)} {ty tq te : TypeId} {I : List Nat → (Nat → α) → Prop} {id : Nat}

/-! ### Opening -/
def opened (C : Conf) (e : α → List DV) (he : ∀ x, NLs (e x)) (ty tq te : TypeId) (id : Nat) (b : Option Nat) (l : List Nat) (M : Nat → α) : Conf :=
  ⟨C.μ ++ [b, none], C.rows.set id (.box tq [.own C.rows.length 1 0 l.length]) ++ [.flat false 1 te l.length (vec eA 0 l), .obj (arO e he ty l M)], C.w⟩

theorem getset_app {rows : List Row} {id i : Nat} {r a b s : Row} (hid : id < rows.length) (h : (rows.set id r ++ [a, b])[i]? = some s) :
    (i = id ∧ s = r) ∨ (i ≠ id ∧ i < rows.length ∧ rows[i]? = some s) ∨ (i = rows.length ∧ s = a) ∨ (i = rows.length + 1 ∧ s = b) := by
  rcases Nat.lt_or_ge i rows.length with hi | hi
  · rw [List.getElem?_append_left (by rw [List.length_set]; exact hi)] at h
    rcases (get_set_iff hid).1 h with ⟨rfl, rfl⟩ | ⟨n1, h⟩
    · exact .inl ⟨rfl, rfl⟩
    · exact .inr (.inl ⟨Ne.symm n1, hi, h⟩)
  · rw [List.getElem?_append_right (by rw [List.length_set]; exact hi), List.length_set] at h
    obtain ⟨d, hd⟩ : ∃ d, i = rows.length + d := ⟨i - rows.length, by omega⟩
    subst hd
    rw [Nat.add_sub_cancel_left] at h
    match d, h with
    | 0, h => simp at h; exact .inr (.inr (.inl ⟨rfl, h.symm⟩))
    | 1, h => simp at h; exact .inr (.inr (.inr ⟨rfl, h.symm⟩))
    | d + 2, h => simp at h
theorem getmu_app {μ : List (Option Nat)} {i : Nat} {b m : Option Nat} (h : (μ ++ [b, none])[i]? = some m) : (i < μ.length ∧ μ[i]? = some m) ∨ (i = μ.length ∧ m = b) ∨ (i = μ.length + 1 ∧ m = none) := by
  rcases Nat.lt_or_ge i μ.length with hi | hi
  · rw [List.getElem?_append_left hi] at h
    exact .inl ⟨hi, h⟩
  · rw [List.getElem?_append_right hi] at h
    obtain ⟨d, hd⟩ : ∃ d, i = μ.length + d := ⟨i - μ.length, by omega⟩
    subst hd
    rw [Nat.add_sub_cancel_left] at h
    match d, h with
    | 0, h => simp at h; exact .inr (.inl ⟨rfl, h.symm⟩)
    | 1, h => simp at h; exact .inr (.inr ⟨rfl, h.symm⟩)
    | d + 2, h => simp at h

theorem open_rel (h : HRel X C) (hr : C.rows[id]? = some (.obj (swO e he ty tq te I))) : ∃ b l M, I l M ∧ l.Nodup ∧ Ev X C (opened C e he ty tq te id b l M) ∧ HRel X (opened C e he ty tq te id b l M) := by
  obtain ⟨m, hμ⟩ := h.muOf hr
  have hrel := h.rel id m _ hμ hr
  obtain ⟨q, b, l, M, rfl, w⟩ : ∃ q b l M, m = some q ∧ SwRel e he ty tq te I C.w (C.ok X) q b l M := by
    cases m with
    | none => exact hrel
    | some q => exact hrel
  have hidl := (List.getElem?_eq_some_iff.1 hr).1
  have hlen := h.len
  have hext : (Row.obj (swO e he ty tq te I)).ext C.w (some q) = b.toList ++ l := sw_ext w
  have inb : ∀ {x}, b = some x → x ∈ (Row.obj (swO e he ty tq te I)).ext C.w (some q) := fun hx => by rw [hext, hx]; simp
  have inl : ∀ {x}, x ∈ l → x ∈ (Row.obj (swO e he ty tq te I)).ext C.w (some q) := fun hx => by rw [hext]; simp [hx]
  -- what a row of the new one is
  have hrow : ∀ {i : Nat} {m : Option Nat} {s : Row}, (opened C e he ty tq te id b l M).μ[i]? = some m → (opened C e he ty tq te id b l M).rows[i]? = some s →
      (i = id ∧ m = some q ∧ s = .box tq [.own C.rows.length 1 0 l.length]) ∨ (i ≠ id ∧ i < C.rows.length ∧ C.μ[i]? = some m ∧ C.rows[i]? = some s) ∨
      (i = C.rows.length ∧ m = b ∧ s = .flat false 1 te l.length (vec eA 0 l)) ∨ (i = C.rows.length + 1 ∧ m = none ∧ s = .obj (arO e he ty l M)) := by
    intro i m s h1 h2
    rcases getset_app hidl h2 with ⟨rfl, e2⟩ | ⟨n1, n2, h2⟩ | ⟨e1, e2⟩ | ⟨e1, e2⟩ <;> rcases getmu_app h1 with ⟨k1, k2⟩ | ⟨k1, k2⟩ | ⟨k1, k2⟩ <;> first | omega | skip
    · rw [hμ] at k2; injection k2 with k2; exact .inl ⟨rfl, k2.symm, e2⟩
    · exact .inr (.inl ⟨n1, n2, k2, h2⟩)
    · exact .inr (.inr (.inl ⟨e1, k2, e2⟩))
    · exact .inr (.inr (.inr ⟨e1, k2, e2⟩))
  have hlive : ∀ {c : Nat}, (opened C e he ty tq te id b l M).live c → C.live c := by
    rintro c ⟨i, m, s, h1, h2, h3, h4⟩
    rcases hrow h1 h2 with ⟨rfl, rfl, rfl⟩ | ⟨n1, n2, k1, k2⟩ | ⟨e1, rfl, rfl⟩ | ⟨e1, rfl, rfl⟩
    · rcases h4 with h4 | h4
      · exact ⟨_, _, _, hμ, hr, rfl, .inl h4⟩
      · cases h4
    · exact ⟨i, m, s, k1, k2, h3, h4⟩
    · rcases h4 with h4 | h4
      · exact ⟨_, _, _, hμ, hr, rfl, .inr (inb h4)⟩
      · cases h4
    · rcases h4 with h4 | h4
      · cases h4
      · exact ⟨_, _, _, hμ, hr, rfl, .inr (inl h4)⟩
  have ev : Ev X C (opened C e he ty tq te id b l M) := ⟨Nat.le_refl _, fun _ _ _ => rfl, fun c _ hl hk => hl (hlive hk), fun _ _ _ k => ⟨_, k, rfl⟩, fun i x hx => by
    simp only [opened]
    rw [List.getElem?_append_left (List.getElem?_eq_some_iff.1 hx).1]
    exact hx⟩
  have hmain : ∀ {x : Nat}, b = some x → ∀ {j : Nat} {s : Row} {n : Option Nat}, C.μ[j]? = some n → C.rows[j]? = some s → s ≠ .gone → n ≠ some x ∧ (x ∈ s.ext C.w n → id = j) := fun hb j s n k1 k2 k3 => h.apartX id j _ _ _ _ _ hμ k1 hr k2 (inb hb) k3
  have hother : ∀ {a : Nat}, a ∈ l → ∀ {j : Nat} {s : Row} {n : Option Nat}, C.μ[j]? = some n → C.rows[j]? = some s → s ≠ .gone → n ≠ some a ∧ (a ∈ s.ext C.w n → id = j) := fun hb j s n k1 k2 k3 => h.apartX id j _ _ _ _ _ hμ k1 hr k2 (inl hb) k3
  refine ⟨b, l, M, w.inv, w.objs.1, ev, ⟨by simp [opened, hlen], h.os, h.tape, h.output, h.size, h.keep, h.shape, fun i x hx => ev.pre i x (h.first i x hx), ?_, ?_, ?_, ?_, ?_⟩⟩
  · intro i c hc
    rcases getmu_app hc with ⟨k1, k2⟩ | ⟨k1, k2⟩ | ⟨k1, k2⟩
    · exact h.place i c k2
    · exact h.placeX id _ c _ hμ hr (inb k2.symm)
    · cases k2
  · intro i j c r s h1 h2 h3 h4 h5 h6
    rcases hrow h1 h3 with ⟨e1, e2, e3⟩ | ⟨n1, n2, k1, k2⟩ | ⟨e1, e2, e3⟩ | ⟨e1, e2, e3⟩ <;> rcases hrow h2 h4 with ⟨f1, f2, f3⟩ | ⟨p1, p2, q1, q2⟩ | ⟨f1, f2, f3⟩ | ⟨f1, f2, f3⟩
    · rw [e1, f1]
    · exact absurd (h.apart id j c _ s (by rw [hμ, e2]) q1 hr q2 rfl h6).symm p1
    · exact absurd (f2.symm.trans e2) w.bq
    · cases f2
    · exact absurd (h.apart i id c r _ k1 (by rw [hμ, f2]) k2 hr h5 (by simp)) n1
    · exact h.apart i j c r s k1 q1 k2 q2 h5 h6
    · exact absurd rfl (hmain f2.symm k1 k2 (by rintro rfl; cases h5)).1
    · cases f2
    · exact absurd (e2.symm.trans f2) w.bq
    · exact absurd rfl (hmain e2.symm q1 q2 h6).1
    · rw [e1, f1]
    · cases f2
    all_goals cases e2
  · intro i m c r h1 h2 h3
    rcases hrow h1 h2 with ⟨e1, e2, e3⟩ | ⟨n1, n2, k1, k2⟩ | ⟨e1, e2, e3⟩ | ⟨e1, e2, e3⟩
    · subst e3; cases h3
    · exact h.placeX i m c r k1 k2 h3
    · subst e3; cases h3
    · subst e3; exact h.placeX id _ c _ hμ hr (inl h3)
  · intro i j m n c r s h1 h2 h3 h4 h5 h6
    rcases hrow h1 h3 with ⟨e1, e2, e3⟩ | ⟨n1, n2, k1, k2⟩ | ⟨e1, e2, e3⟩ | ⟨e1, e2, e3⟩
    · subst e3; cases h5
    · rcases hrow h2 h4 with ⟨f1, f2, f3⟩ | ⟨p1, p2, q1, q2⟩ | ⟨f1, f2, f3⟩ | ⟨f1, f2, f3⟩
      · subst f3
        refine ⟨?_, fun hk => by cases hk⟩
        rw [f2]
        exact (h.apartX i id m _ c r _ k1 hμ k2 hr h5 (by simp)).1
      · exact h.apartX i j m n c r s k1 q1 k2 q2 h5 h6
      · subst f3
        refine ⟨fun en => ?_, fun hk => by cases hk⟩
        rw [f2] at en
        exact n1 ((h.apartX i id m _ c r _ k1 hμ k2 hr h5 (by simp)).2 (inb en))
      · subst f3
        refine ⟨fun en => (by rw [f2] at en; cases en), fun hk => ?_⟩
        exact absurd ((h.apartX i id m _ c r _ k1 hμ k2 hr h5 (by simp)).2 (inl hk)) n1
    · subst e3; cases h5
    · subst e3
      have hc : c ∈ l := h5
      rcases hrow h2 h4 with ⟨f1, f2, f3⟩ | ⟨p1, p2, q1, q2⟩ | ⟨f1, f2, f3⟩ | ⟨f1, f2, f3⟩
      · subst f3
        refine ⟨fun en => ?_, fun hk => by cases hk⟩
        rw [f2] at en
        injection en with en
        exact w.qn (en ▸ hc)
      · refine ⟨(hother hc q1 q2 h6).1, fun hk => ?_⟩
        exact absurd ((hother hc q1 q2 h6).2 hk).symm p1
      · subst f3
        refine ⟨fun en => ?_, fun hk => by cases hk⟩
        rw [f2] at en
        exact w.bn c en hc
      · exact ⟨fun en => (by rw [f2] at en; cases en), fun _ => (by rw [e1, f1])⟩
  · intro i o s h1 h2
    rcases hrow h1 h2 with ⟨e1, e2, e3⟩ | ⟨n1, n2, k1, k2⟩ | ⟨e1, e2, e3⟩ | ⟨e1, e2, e3⟩
    · subst e2; subst e3
      obtain ⟨sv, h0, w1, w2⟩ := w.box
      refine ⟨[sv], w1, .cons h0 ?_ .nil⟩
      have hN : (C.μ ++ [b, none])[C.rows.length]? = some b := by rw [← hlen, List.getElem?_append_right (Nat.le_refl _)]; simp
      simp only [opened]
      generalize l.length = n at w2 ⊢
      cases w2 with
      | own0 h3 => simp at h3; subst h3; exact .own0 hN
      | own h3 hh h4 h5 h6 => simp at h3; subst h3; exact .own hN hh h4 h5 h6
    · exact (h.rel i o s k1 k2).mono ev.ok ev.same ev.pre ev.shape (fun _ _ => rfl) (fun _ _ => rfl)
    · subst e2; subst e3
      have hf := w.flat
      cases o with
      | none => exact hf
      | some x =>
        obtain ⟨cs, vs, f1, f2, f3, f4, f5⟩ := hf
        exact ⟨cs, vs, f1, f2, f3, fun i hi => (f4 i hi).mono ev.ok ev.same, f5⟩
    · subst e2; subst e3
      exact (arO e he ty l M).rel_frame w.objs ev.ok (fun _ _ _ => rfl) (fun _ h => by cases h) (fun _ _ => rfl)

/-! ### Shutting -/
def shutRows (rows : List Row) (e : α → List DV) (he : ∀ x, NLs (e x)) (ty tq te : TypeId) (I : List Nat → (Nat → α) → Prop) (id N A : Nat) : List Row :=
  ((rows.set N .gone).set A .gone).set id (.obj (swO e he ty tq te I))
theorem shut_rel {N A : Nat} {l dom : List Nat} {M : Nat → α} (h : HRel X C) (hr : C.rows[id]? = some (.box tq [.own N 1 0 l.length])) (hN : C.rows[N]? = some (.flat false 1 te l.length (vec eA 0 l))) (hA : C.rows[A]? = some (.obj (arO e he ty dom M)))
    (hsub : ∀ a ∈ l, a ∈ dom) (hnd : l.Nodup) (hI : I l M) : Ev X C ⟨C.μ, shutRows C.rows e he ty tq te I id N A, C.w⟩ ∧ HRel X ⟨C.μ, shutRows C.rows e he ty tq te I id N A, C.w⟩ := by
  obtain ⟨m, hμ⟩ := h.muOf hr
  obtain ⟨b, hμN⟩ := h.muOf hN
  obtain ⟨mA, hμA⟩ := h.muOf hA
  have hidl := (List.getElem?_eq_some_iff.1 hr).1
  have hNl := (List.getElem?_eq_some_iff.1 hN).1
  have hAl := (List.getElem?_eq_some_iff.1 hA).1
  have hbox := h.rel id m _ hμ hr
  obtain ⟨q, rfl⟩ : ∃ q, m = some q := by
    cases m with
    | none => exact hbox.elim
    | some q => exact ⟨q, rfl⟩
  obtain ⟨vs, c1, c2⟩ := hbox
  have hflat := h.rel N b _ hμN hN
  have hobj : (arO e he ty dom M).rel C.w (C.ok X) mA := by
    have := h.rel A mA _ hμA hA
    cases mA <;> exact this
  have hNid : N ≠ id := by rintro rfl; rw [hr] at hN; cases hN
  have hAid : A ≠ id := by rintro rfl; rw [hr] at hA; cases hA
  have hNA : N ≠ A := by rintro rfl; rw [hA] at hN; cases hN
  have hbq : b ≠ some q := by rintro rfl; exact hNid (h.apart N id q _ _ hμN hμ hN hr rfl (by simp))
  have hdom : ∀ {a : Nat}, a ∈ l → a ∈ (Row.obj (arO e he ty dom M)).ext C.w mA := fun ha => hsub _ ha
  have hqn : q ∉ l := fun ha => (h.apartX A id mA _ q _ _ hμA hμ hA hr (hdom ha) (by simp)).1 rfl
  have hbn : ∀ x, b = some x → x ∉ l := fun x hx ha => (h.apartX A N mA _ x _ _ hμA hμN hA hN (hdom ha) (by simp)).1 hx
  have hrow : ∀ {i : Nat} {s : Row}, (shutRows C.rows e he ty tq te I id N A)[i]? = some s → s ≠ .gone → (i = id ∧ s = .obj (swO e he ty tq te I)) ∨ (i ≠ id ∧ i ≠ N ∧ i ≠ A ∧ C.rows[i]? = some s) := by
    intro i s hs hg
    unfold shutRows at hs
    rcases (get_set_iff (by simp [hidl])).1 hs with ⟨rfl, rfl⟩ | ⟨n1, hs⟩
    · exact .inl ⟨rfl, rfl⟩
    · rcases (get_set_iff (by simp [hAl])).1 hs with ⟨rfl, rfl⟩ | ⟨n2, hs⟩
      · exact absurd rfl hg
      · rcases (get_set_iff hNl).1 hs with ⟨rfl, rfl⟩ | ⟨n3, hs⟩
        · exact absurd rfl hg
        · exact .inr ⟨Ne.symm n1, Ne.symm n3, Ne.symm n2, hs⟩
  have hsw : ∀ (ok' : Bool → Nat → Prop), (∀ t c, C.ok X t c → ok' t c) → SwRel e he ty tq te I C.w ok' q b l M := by
    intro ok' hok
    refine ⟨?_, ?_, ⟨hnd, fun a ha => ?_⟩, hqn, hbq, hbn, hI⟩
    · generalize l.length = n at c2 ⊢
      cases c2 with
      | cons o1 o2 o3 =>
        rename_i v vs'
        cases o3
        refine ⟨v, o1, c1, ?_⟩
        cases o2 with
        | own0 h3 => rw [hμN] at h3; injection h3 with h3; subst h3; exact .own0 rfl
        | own h3 hh h4 h5 h6 => rw [hμN] at h3; injection h3 with h3; subst h3; exact .own rfl hh h4 h5 h6
    · cases b with
      | none => exact hflat
      | some x =>
        obtain ⟨cs, vs, f1, f2, f3, f4, f5⟩ := hflat
        exact ⟨cs, vs, f1, f2, f3, fun i hi => (f4 i hi).mono hok (fun _ _ _ => rfl), f5⟩
    · obtain ⟨ws, k1, k2⟩ := hobj.2 a (hsub a ha)
      exact ⟨ws, k1, k2.mono hok (fun _ _ _ => rfl)⟩
  have hext : (Row.obj (swO e he ty tq te I)).ext C.w (some q) = b.toList ++ l := sw_ext (hsw (C.ok X) fun _ _ hk => hk)
  have hin : ∀ {c : Nat}, c ∈ (Row.obj (swO e he ty tq te I)).ext C.w (some q) → b = some c ∨ c ∈ l := by
    intro c hc
    rw [hext] at hc
    rcases List.mem_append.1 hc with hc | hc
    · left; cases b <;> simp at hc ⊢; exact hc.symm
    · exact .inr hc
  have hlive : ∀ {c : Nat}, (⟨C.μ, shutRows C.rows e he ty tq te I id N A, C.w⟩ : Conf).live c → C.live c := by
    rintro c ⟨i, m, s, h1, h2, h3, h4⟩
    rcases hrow h2 (by rintro rfl; cases h3) with ⟨rfl, rfl⟩ | ⟨n1, n2, n3, k2⟩
    · have h1' : C.μ[i]? = some m := h1
      rw [hμ] at h1'; injection h1' with h1'; subst h1'
      rcases h4 with h4 | h4
      · exact ⟨_, _, _, hμ, hr, rfl, .inl h4⟩
      · rcases hin h4 with h5 | h5
        · exact ⟨_, _, _, hμN, hN, rfl, .inl h5⟩
        · exact ⟨_, _, _, hμA, hA, rfl, .inr (hdom h5)⟩
    · exact ⟨i, m, s, h1, k2, h3, h4⟩
  have ev : Ev X C ⟨C.μ, shutRows C.rows e he ty tq te I id N A, C.w⟩ := ⟨Nat.le_refl _, fun _ _ _ => rfl, fun c _ hl hk => hl (hlive hk), fun _ _ _ k => ⟨_, k, rfl⟩, fun _ _ hx => hx⟩
  refine ⟨ev, ⟨by simp [shutRows, h.len], h.os, h.tape, h.output, h.size, h.keep, h.shape, h.first, h.place, ?_, ?_, ?_, ?_⟩⟩
  · intro i j c r s h1 h2 h3 h4 h5 h6
    rcases hrow h3 (by rintro rfl; cases h5) with ⟨e1, e2⟩ | ⟨n1, n2, n3, k3⟩ <;> rcases hrow h4 h6 with ⟨f1, f2⟩ | ⟨p1, p2, p3, k4⟩
    · rw [e1, f1]
    · subst e1; exact h.apart i j c _ s h1 h2 hr k4 rfl h6
    · subst f1; exact h.apart i j c r _ h1 h2 k3 hr h5 (by simp)
    · exact h.apart i j c r s h1 h2 k3 k4 h5 h6
  · intro i m c r h1 h2 h3
    rcases hrow h2 (by rintro rfl; cases h3) with ⟨e1, e2⟩ | ⟨n1, n2, n3, k2⟩
    · subst e1; subst e2
      have h1' : C.μ[i]? = some m := h1
      rw [hμ] at h1'; injection h1' with h1'; subst h1'
      rcases hin h3 with h5 | h5
      · exact h.place N c (by rw [hμN, h5])
      · exact h.placeX A mA c _ hμA hA (hdom h5)
    · exact h.placeX i m c r h1 k2 h3
  · intro i j m n c r s h1 h2 h3 h4 h5 h6
    rcases hrow h3 (by rintro rfl; cases h5) with ⟨e1, e2⟩ | ⟨n1, n2, n3, k3⟩
    · subst e1; subst e2
      have h1' : C.μ[i]? = some m := h1
      rw [hμ] at h1'; injection h1' with h1'; subst h1'
      rcases hrow h4 h6 with ⟨f1, f2⟩ | ⟨p1, p2, p3, k4⟩
      · subst f1
        refine ⟨fun en => ?_, fun _ => rfl⟩
        have h2' : C.μ[j]? = some n := h2
        rw [hμ] at h2'; injection h2' with h2'; subst h2'
        injection en with en
        subst en
        rcases hin h5 with h7 | h7
        · exact hbq h7
        · exact hqn h7
      · rcases hin h5 with h7 | h7
        · refine ⟨fun en => ?_, fun hk => ?_⟩
          · subst h7; subst en
            exact p2 (h.apart N j c _ s hμN h2 hN k4 rfl h6).symm
          · subst h7
            exact absurd rfl (h.apartX j N n _ c s _ h2 hμN k4 hN hk (by simp)).1
        · have h8 := h.apartX A j mA n c _ s hμA h2 hA k4 (hdom h7) h6
          exact ⟨h8.1, fun hk => absurd (h8.2 hk).symm p3⟩
    · rcases hrow h4 h6 with ⟨f1, f2⟩ | ⟨p1, p2, p3, k4⟩
      · subst f1; subst f2
        have h2' : C.μ[j]? = some n := h2
        rw [hμ] at h2'; injection h2' with h2'; subst h2'
        refine ⟨(h.apartX i j m _ c r _ h1 hμ k3 hr h5 (by simp)).1, fun hk => ?_⟩
        rcases hin hk with h7 | h7
        · exact absurd h7 (h.apartX i N m _ c r _ h1 hμN k3 hN h5 (by simp)).1
        · exact absurd ((h.apartX i A m _ c r _ h1 hμA k3 hA h5 (by simp)).2 (hdom h7)) n3
      · exact h.apartX i j m n c r s h1 h2 k3 k4 h5 h6
  · intro i o s h1 h2
    by_cases hg : s = .gone
    · subst hg; cases o <;> trivial
    rcases hrow h2 hg with ⟨e1, e2⟩ | ⟨n1, n2, n3, k2⟩
    · subst e1; subst e2
      have h1' : C.μ[i]? = some o := h1
      rw [hμ] at h1'; injection h1' with h1'; subst h1'
      exact ⟨q, b, l, M, rfl, hsw _ ev.ok⟩
    · exact (h.rel i o s h1 k2).mono ev.ok ev.same ev.pre ev.shape (fun _ _ => rfl) (fun _ _ => rfl)

/-! ### In a walk -/
variable {f : FuncId} {k : List Item} {Q : Frame → Frame → Conf → Prop} {st st' : St}
theorem ak_open (id : Nat) (hr : st.rows[id]? = some (.obj (swO e he ty tq te I))) (h : ∀ l M, I l M → l.Nodup → AK X f k Q ⟨st.nt, st.tm, st.rows.set id (.box tq [.own st.rows.length 1 0 l.length]) ++ [.flat false 1 te l.length (vec eA 0 l), .obj (arO e he ty l M)]⟩) : AK X f k Q st := by
  intro a C hC b cs hb hk
  have hrC : C.rows[id]? = some (.obj (swO e he ty tq te I)) := by rw [hC.rows]; exact hr
  obtain ⟨bo, l, M, hI, hn, ev, hR⟩ := open_rel hC.rel hrC
  have hsim := hC.moved ev hR
  obtain ⟨C', fr, q1, q2, q3⟩ := h l M hI hn a _ (by
    have := hsim
    simp only [opened] at this
    rw [hC.rows] at this
    exact this) b cs hb hk
  exact ⟨C', fr, q1, q2, q3⟩
theorem ak_shut (I : List Nat → (Nat → α) → Prop) {N A : Nat} {l dom : List Nat} {M : Nat → α} (id : Nat) (hr : st.rows[id]? = some (.box tq [.own N 1 0 l.length])) (hN : st.rows[N]? = some (.flat false 1 te l.length (vec eA 0 l))) (hA : st.rows[A]? = some (.obj (arO e he ty dom M)))
    (hsub : ∀ a ∈ l, a ∈ dom) (hnd : l.Nodup) (hI : I l M) (h : AK X f k Q ⟨st.nt, st.tm, shutRows st.rows e he ty tq te I id N A⟩) : AK X f k Q st := by
  intro a C hC b cs hb hk
  obtain ⟨ev, hR⟩ := shut_rel (I := I) hC.rel (by rw [hC.rows]; exact hr) (by rw [hC.rows]; exact hN) (by rw [hC.rows]; exact hA) hsub hnd hI
  have hsim := hC.moved ev hR
  obtain ⟨C', fr, q1, q2, q3⟩ := h a _ (by
    have := hsim
    simp only at this
    rw [hC.rows] at this
    exact this) b cs hb hk
  exact ⟨C', fr, q1, q2, q3⟩
end

theorem ak_arena {X : Ctx} {α : Type} (e : α → List DV) (he : ∀ x, NLs (e x)) (ty : TypeId) (m : Nat → α) {f : FuncId} {k : List Item} {Q : Frame → Frame → Conf → Prop} {st : St}
    (h : AK X f k Q ⟨st.nt, st.tm, st.rows ++ [.obj (arO e he ty [] m)]⟩) : AK X f k Q st := by
  intro a C hC b cs hb hk
  have hrel : RowRel C.w ((C.virt (.obj (arO e he ty [] m))).ok X) (C.virt (.obj (arO e he ty [] m))).μ none (.obj (arO e he ty [] m)) := ⟨.nil, fun _ h => by cases h⟩
  have hv := HRel.virt hC.rel hrel
  have ev := Ev.virt hC.rel (.obj (arO e he ty [] m))
  exact h a (C.virt (.obj (arO e he ty [] m))) (by
    have := hC.moved ev hv
    have e : (C.virt (.obj (arO e he ty [] m))).rows = st.rows ++ [.obj (arO e he ty [] m)] := by simp only [Conf.virt, hC.rows]
    rw [e] at this
    exact this) b cs hb hk

theorem passL_ds {rows : List Row} {ids : List Nat} {ρ : Nat → Nat} : ∀ (args : List DV), PassL rows ids ρ (args.map .d) (args.map .d)
  | [] => .nil
  | x :: xs => .cons (.same (.d x)) (passL_ds xs)

/-- A contract of the opened rows makes one of the object. -/
theorem says_shut {P : Program} {f : FuncId} {α : Type} {e : α → List DV} {he : ∀ x, NLs (e x)} {ty tq te : TypeId} {I I' : List Nat → (Nat → α) → Prop} {args : List DV} {ret : AV} (hren : ∀ ρ, renA ρ ret = ret) (hna : NA ret)
    (hs : ∀ l M, I l M → l.Nodup → ∃ l' dom' M', I' l' M' ∧ (∀ a ∈ l', a ∈ dom') ∧ l'.Nodup ∧
      Says P f [.box tq [.own 1 1 0 l.length], .flat false 1 te l.length (vec eA 0 l), .obj (arO e he ty l M)] (.ptr 0 0 0 0 :: args.map .d) [.box tq [.own 3 1 0 l'.length], .gone, .obj (arO e he ty dom' M'), .flat false 1 te l'.length (vec eA 0 l')] ret) :
    Says P f [.obj (swO e he ty tq te I)] (.ptr 0 0 0 0 :: args.map .d) [.obj (swO e he ty tq te I')] ret := by
  intro X vs hP hF hR hA
  obtain ⟨b, l, M, hI, hn, ev, hR1⟩ := open_rel (id := 0) hR rfl
  obtain ⟨l', dom', M', hI', hsub, hnd, says⟩ := hs l M hI hn
  generalize hC1 : opened (⟨X.μ0, [.obj (swO e he ty tq te I)], X.w0⟩ : Conf) e he ty tq te 0 b l M = C1 at ev hR1
  have hrows : C1.rows = [.box tq [.own 1 1 0 l.length], .flat false 1 te l.length (vec eA 0 l), .obj (arO e he ty l M)] := by rw [← hC1]; rfl
  have hw : C1.w = X.w0 := by rw [← hC1]; rfl
  have hh : Hands C1.rows [0, 1, 2] [.box tq [.own 1 1 0 l.length], .flat false 1 te l.length (vec eA 0 l), .obj (arO e he ty l M)] := by
    rw [hrows]
    exact hands_three rfl rfl rfl (by decide)
  have hargs : AVRl C1.w (C1.ok X) C1.μ (.ptr 0 0 0 0 :: args.map .d) vs := by
    rw [hw]
    exact hA.mono (fun t c hc => by have := ev.ok t c hc; exact this) (fun _ _ _ => rfl) ev.pre (fun _ cs ty k => ⟨cs, k, rfl⟩)
  have hp : PassL C1.rows [0, 1, 2] (moveTo [0, 1, 2] C1.rows.length) (.ptr 0 0 0 0 :: args.map .d) (.ptr 0 0 0 0 :: args.map .d) := .cons (.same (.ptr 0 0 0 0)) (passL_ds args)
  have hcall := says (callCtx X C1 [0, 1, 2]) vs hP (callFits hR1 hh) (callRel hR1 hh) (passL_rel hR1 hh hp hargs)
  rw [show (callCtx X C1 [0, 1, 2]).w0 = X.w0 from hw] at hcall
  intro cs
  obtain ⟨en, w', fr, ⟨v, μ', rfl, hd⟩, q1, q2, q3⟩ := hcall cs
  refine ⟨_, w', fr, ⟨v, ?_⟩, q1, q2, q3⟩
  have hb := back_rel hR1 hh hd
  have hret := back_ret hR1 hh hd
  have hbr : (backConf C1 [0, 1, 2] μ' [.box tq [.own 3 1 0 l'.length], .gone, .obj (arO e he ty dom' M'), .flat false 1 te l'.length (vec eA 0 l')] w').rows = [.box tq [.own 3 1 0 l'.length], .gone, .obj (arO e he ty dom' M'), .flat false 1 te l'.length (vec eA 0 l')] := by
    simp only [backConf, hrows]
    rfl
  have hbw : (backConf C1 [0, 1, 2] μ' [.box tq [.own 3 1 0 l'.length], .gone, .obj (arO e he ty dom' M'), .flat false 1 te l'.length (vec eA 0 l')] w').w = w' := rfl
  generalize backConf C1 [0, 1, 2] μ' [.box tq [.own 3 1 0 l'.length], .gone, .obj (arO e he ty dom' M'), .flat false 1 te l'.length (vec eA 0 l')] w' = C2 at hb hret hbr hbw
  obtain ⟨ev2, hR3⟩ := shut_rel (I := I') (id := 0) (N := 3) (A := 2) hb (by rw [hbr]; rfl) (by rw [hbr]; rfl) (by rw [hbr]; rfl) hsub hnd hI'
  have hr3 : shutRows C2.rows e he ty tq te I' 0 3 2 = [.obj (swO e he ty tq te I'), .gone, .gone, .gone] := by rw [hbr]; rfl
  rw [hr3] at ev2 hR3
  have hμ0 : X.μ0.length = 1 := hR.len
  have p : Picks X ⟨C2.μ, [.obj (swO e he ty tq te I'), .gone, .gone, .gone], C2.w⟩ [0] [.obj (swO e he ty tq te I')] := ⟨sel_of_eq rfl, by decide, fun j hj => by
    have : j = 0 := by omega
    subst this
    rfl⟩
  have hsel := sel_rel hR3 p
  have hokr : ∀ b, (selConf ⟨C2.μ, [.obj (swO e he ty tq te I'), .gone, .gone, .gone], C2.w⟩ [0] [.obj (swO e he ty tq te I')]).ok X true b → (selConf ⟨C2.μ, [.obj (swO e he ty tq te I'), .gone, .gone, .gone], C2.w⟩ [0] [.obj (swO e he ty tq te I')]).okR X true b := fun _ h => ⟨rfl, h⟩
  rw [hren] at hret
  rw [← hbw] at hret ⊢
  have hret2 := ev2.avr hret
  exact ⟨(selConf ⟨C2.μ, [.obj (swO e he ty tq te I'), .gone, .gone, .gone], C2.w⟩ [0] [.obj (swO e he ty tq te I')]).μ, rfl, hsel, fun i o r e1 e2 => (hsel.rel i o r e1 e2).perm hokr (by
    cases i with
    | zero => simp at e2; subst e2; exact .obj _
    | succ i => simp at e2), (sel_av hR3 p (by rw [hren]; exact hret2)).perm hokr hna⟩
/-- .. one more row coming back. -/
theorem says_shutR {P : Program} {f : FuncId} {α : Type} {e : α → List DV} {he : ∀ x, NLs (e x)} {ty tq te : TypeId} {I I' : List Nat → (Nat → α) → Prop} {args : List DV} {kk : Nat} {tr : TypeId} {m : Nat} {gr : Nat → List DV} (hnr : NR (.flat false kk tr m gr))
    (hs : ∀ l M, I l M → l.Nodup → ∃ l' dom' M', I' l' M' ∧ (∀ a ∈ l', a ∈ dom') ∧ l'.Nodup ∧
      Says P f [.box tq [.own 1 1 0 l.length], .flat false 1 te l.length (vec eA 0 l), .obj (arO e he ty l M)] (.ptr 0 0 0 0 :: args.map .d) [.box tq [.own 4 1 0 l'.length], .gone, .obj (arO e he ty dom' M'), .flat false kk tr m gr, .flat false 1 te l'.length (vec eA 0 l')] (.own 3 kk 0 m)) :
    Says P f [.obj (swO e he ty tq te I)] (.ptr 0 0 0 0 :: args.map .d) [.obj (swO e he ty tq te I'), .flat false kk tr m gr] (.own 1 kk 0 m) := by
  intro X vs hP hF hR hA
  obtain ⟨b, l, M, hI, hn, ev, hR1⟩ := open_rel (id := 0) hR rfl
  obtain ⟨l', dom', M', hI', hsub, hnd, says⟩ := hs l M hI hn
  generalize hC1 : opened (⟨X.μ0, [.obj (swO e he ty tq te I)], X.w0⟩ : Conf) e he ty tq te 0 b l M = C1 at ev hR1
  have hrows : C1.rows = [.box tq [.own 1 1 0 l.length], .flat false 1 te l.length (vec eA 0 l), .obj (arO e he ty l M)] := by rw [← hC1]; rfl
  have hw : C1.w = X.w0 := by rw [← hC1]; rfl
  have hh : Hands C1.rows [0, 1, 2] [.box tq [.own 1 1 0 l.length], .flat false 1 te l.length (vec eA 0 l), .obj (arO e he ty l M)] := by
    rw [hrows]
    exact hands_three rfl rfl rfl (by decide)
  have hargs : AVRl C1.w (C1.ok X) C1.μ (.ptr 0 0 0 0 :: args.map .d) vs := by
    rw [hw]
    exact hA.mono (fun t c hc => by have := ev.ok t c hc; exact this) (fun _ _ _ => rfl) ev.pre (fun _ cs ty k => ⟨cs, k, rfl⟩)
  have hp : PassL C1.rows [0, 1, 2] (moveTo [0, 1, 2] C1.rows.length) (.ptr 0 0 0 0 :: args.map .d) (.ptr 0 0 0 0 :: args.map .d) := .cons (.same (.ptr 0 0 0 0)) (passL_ds args)
  have hcall := says (callCtx X C1 [0, 1, 2]) vs hP (callFits hR1 hh) (callRel hR1 hh) (passL_rel hR1 hh hp hargs)
  rw [show (callCtx X C1 [0, 1, 2]).w0 = X.w0 from hw] at hcall
  intro cs
  obtain ⟨en, w', fr, ⟨v, μ', rfl, hd⟩, q1, q2, q3⟩ := hcall cs
  refine ⟨_, w', fr, ⟨v, ?_⟩, q1, q2, q3⟩
  have hb := back_rel hR1 hh hd
  have hret := back_ret hR1 hh hd
  have hbr : (backConf C1 [0, 1, 2] μ' [.box tq [.own 4 1 0 l'.length], .gone, .obj (arO e he ty dom' M'), .flat false kk tr m gr, .flat false 1 te l'.length (vec eA 0 l')] w').rows = [.box tq [.own 4 1 0 l'.length], .gone, .obj (arO e he ty dom' M'), .flat false kk tr m gr, .flat false 1 te l'.length (vec eA 0 l')] := by
    simp only [backConf, hrows]
    rfl
  have hbw : (backConf C1 [0, 1, 2] μ' [.box tq [.own 4 1 0 l'.length], .gone, .obj (arO e he ty dom' M'), .flat false kk tr m gr, .flat false 1 te l'.length (vec eA 0 l')] w').w = w' := rfl
  generalize backConf C1 [0, 1, 2] μ' [.box tq [.own 4 1 0 l'.length], .gone, .obj (arO e he ty dom' M'), .flat false kk tr m gr, .flat false 1 te l'.length (vec eA 0 l')] w' = C2 at hb hret hbr hbw
  obtain ⟨ev2, hR3⟩ := shut_rel (I := I') (id := 0) (N := 4) (A := 2) hb (by rw [hbr]; rfl) (by rw [hbr]; rfl) (by rw [hbr]; rfl) hsub hnd hI'
  have hr3 : shutRows C2.rows e he ty tq te I' 0 4 2 = [.obj (swO e he ty tq te I'), .gone, .gone, .flat false kk tr m gr, .gone] := by rw [hbr]; rfl
  rw [hr3] at ev2 hR3
  have hμ0 : X.μ0.length = 1 := hR.len
  have p : Picks X ⟨C2.μ, [.obj (swO e he ty tq te I'), .gone, .gone, .flat false kk tr m gr, .gone], C2.w⟩ [0, 3] [.obj (swO e he ty tq te I'), .flat false kk tr m gr] := ⟨sel_of_eq rfl, by decide, fun j hj => by
    have : j = 0 := by omega
    subst this
    rfl⟩
  have hsel := sel_rel hR3 p
  have hokr : ∀ b, (selConf ⟨C2.μ, [.obj (swO e he ty tq te I'), .gone, .gone, .flat false kk tr m gr, .gone], C2.w⟩ [0, 3] [.obj (swO e he ty tq te I'), .flat false kk tr m gr]).ok X true b → (selConf ⟨C2.μ, [.obj (swO e he ty tq te I'), .gone, .gone, .flat false kk tr m gr, .gone], C2.w⟩ [0, 3] [.obj (swO e he ty tq te I'), .flat false kk tr m gr]).okR X true b := fun _ h => ⟨rfl, h⟩
  rw [show renA (moveTo [0, 1, 2] C1.rows.length) (.own 3 kk 0 m) = .own 3 kk 0 m by rw [hrows]; rfl] at hret
  rw [← hbw] at hret ⊢
  have hret2 := ev2.avr hret
  exact ⟨(selConf ⟨C2.μ, [.obj (swO e he ty tq te I'), .gone, .gone, .flat false kk tr m gr, .gone], C2.w⟩ [0, 3] [.obj (swO e he ty tq te I'), .flat false kk tr m gr]).μ, rfl, hsel, fun i o r e1 e2 => (hsel.rel i o r e1 e2).perm hokr (by
    match i, e2 with
    | 0, e2 => simp at e2; subst e2; exact .obj _
    | 1, e2 => simp at e2; subst e2; exact hnr
    | i + 2, e2 => simp at e2), (sel_av (av := .own 1 kk 0 m) hR3 p hret2).perm hokr (.own _ _ _ _)⟩
end Go.Sy
