/- More rules: cuts, rows that are frozen or seen otherwise, calls that keep some slots, stores into rows. -/
import Derived.Test.YtboaahlhgekbbaaSyJ
set_option linter.unusedVariables false
set_option linter.unusedSimpArgs false
namespace Go.Sy

section
variable {X : Ctx} {T : Tab} {f : FuncId} {k k' : List Item} {Q : Frame → Frame → Conf → Prop} {st st' : St}

/-! ### Cuts -/
theorem lookup_map {ρ : Nat → Nat} : ∀ {l : List (Nat × AV)} {i : Nat} {av : AV}, l.lookup i = some av → (l.map fun p => (p.1, renA ρ p.2)).lookup i = some (renA ρ av)
  | [], _, _, h => by simp at h
  | (j, x) :: l, i, av, h => by
    rw [List.lookup_cons] at h
    rw [List.map_cons, List.lookup_cons]
    split at h
    · rename_i e
      injection h with h
      subst h
      simp [e]
    · rename_i e
      simp only [e]
      exact lookup_map h

theorem lookup_only {S : List Nat} {tm : List (Nat × AV)} {i : Nat} {av : AV} (e : (S.filterMap fun j => (tm.lookup j).map fun a => (j, a)).lookup i = some av) : tm.lookup i = some av := by
  have := lookup_mem e
  simp only [List.mem_filterMap] at this
  obtain ⟨j, _, e⟩ := this
  obtain ⟨y, h1, h2⟩ := Option.map_eq_some_iff.1 e
  injection h2 with h2 h3
  subst h2
  subst h3
  exact h1

theorem sel_of_eq {rows : List Row} {ρ : Nat → Nat} : ∀ {sel : List Nat} {rs : List Row}, sel.map (fun i => rows[i]?) = rs.map (fun r => some (renR ρ r)) → Sel rows ρ sel rs
  | [], [], _ => .nil
  | [], _ :: _, h => by simp at h
  | _ :: _, [], h => by simp at h
  | i :: sel, r :: rs, h => by
    simp only [List.map_cons, List.cons.injEq] at h
    exact .cons h.1 (sel_of_eq h.2)

/-- To another place's names: the slots S alone, the rows 'sel' alone, these under new names. -/
theorem ak_cut (S sel : List Nat) (e1 : (st.only S).tm = st'.tm.map fun p => (p.1, renA (selTo sel st.rows.length) p.2)) (e2 : sel.map (fun i => st.rows[i]?) = st'.rows.map fun r => some (renR (selTo sel st.rows.length) r))
    (e3 : st'.nt = st.nt) (hn : sel.Nodup) (h0 : sel.take X.μ0.length = List.range X.μ0.length) (h : AK X f k Q st') : AK X f k Q st := by
  obtain ⟨nt, tm, rows⟩ := st'
  simp only at e1 e2 e3
  subst e3
  refine ak_pick sel rows tm (sel_of_eq e2) hn h0 (fun i av e => ?_) h
  have := lookup_map (ρ := selTo sel st.rows.length) e
  rw [← e1] at this
  exact lookup_only this

/-- Less is known. -/
theorem ak_sub (tm' : List (Nat × AV)) (ht : ∀ i av, tm'.lookup i = some av → st.tm.lookup i = some av) (h : AK X f k Q { st with tm := tm' }) : AK X f k Q st :=
  fun a C hC => h a C ⟨hC.rel, hC.rows, hC.defers, hC.nt, fun i av e => hC.tm i av (ht i av e)⟩

theorem ak_callS {X : Ctx} {f g : FuncId} {k k' : List Item} {Q : Frame → Frame → Conf → Prop} {st st' : St} {avs args : List AV} {dst : Option Tmp} (S ids : List Nat) {rowsIn rowsOut : List Row} {ret : AV}
    (he : Enters X.P g) (hs : Says X.P g rowsIn args rowsOut ret) (e : callAt st k = some (g, avs, dst, k')) (hh : Hands st.rows ids rowsIn) (hp : PassL st.rows ids (moveTo ids st.rows.length) avs args)
    (hput : (St.put { st with rows := afterCall st.rows ids rowsOut } dst (renA (moveTo ids st.rows.length) ret)).map (St.only S) = some st') (h : AK X f k' Q st') : AK X f k Q st := by
  obtain ⟨s0, h1, rfl⟩ := Option.map_eq_some_iff.1 hput
  exact ak_call ids e he hh hp hs h1 (ak_only S h)

theorem hands_none (rows : List Row) : Hands rows [] [] := ⟨List.nodup_nil, rfl, fun _ _ _ h => by simp at h⟩

/-! ### A row that is seen otherwise -/
theorem rel_swap {C : Conf} (h : HRel X C) {id : Nat} {r r' : Row} (hr : C.rows[id]? = some r) (hl : r'.live = true → r.live = true) (hg : r ≠ .gone)
    (hrel : ∀ (ok : Bool → Nat → Prop) (ob : Option Nat), RowRel C.w ok C.μ ob r → RowRel C.w ok C.μ ob r') (hx : ∀ w m, r'.ext w m = [] := by intros; rfl) :
    HRel X ⟨C.μ, C.rows.set id r', C.w⟩ ∧ Ev X C ⟨C.μ, C.rows.set id r', C.w⟩ := by
  have hlt := (List.getElem?_eq_some_iff.1 hr).1
  have hlive : ∀ {b : Nat}, (⟨C.μ, C.rows.set id r', C.w⟩ : Conf).live b → C.live b := by
    rintro b ⟨i, m, s, h1, h2, h3, h4⟩
    rcases (get_set_iff hlt).1 h2 with ⟨rfl, rfl⟩ | ⟨_, h2⟩
    · rcases h4 with h4 | h4
      · exact ⟨id, m, r, h1, hr, hl h3, .inl h4⟩
      · rw [hx] at h4; cases h4
    · exact ⟨i, m, s, h1, h2, h3, h4⟩
  have ev : Ev X C ⟨C.μ, C.rows.set id r', C.w⟩ := ⟨Nat.le_refl _, fun _ _ _ => rfl, fun _ _ hl k => hl (hlive k), fun _ _ _ k => ⟨_, k, rfl⟩, fun _ _ hx => hx⟩
  have hold : ∀ {i b : Nat} {m : Option Nat} {s : Row}, (C.rows.set id r')[i]? = some s → b ∈ s.ext C.w m → C.rows[i]? = some s := by
    intro i b m s h2 h3
    rcases (get_set_iff hlt).1 h2 with ⟨rfl, rfl⟩ | ⟨_, h2⟩
    · rw [hx] at h3; cases h3
    · exact h2
  refine ⟨⟨by simp [h.len], h.os, h.tape, h.output, h.size, h.keep, h.shape, h.first, h.place, ?_, ?_, ?_, ?_⟩, ev⟩
  · intro i j b p q h1 h2 h3 h4 h5 h6
    rcases (get_set_iff hlt).1 h3 with ⟨rfl, rfl⟩ | ⟨n1, h3⟩ <;> rcases (get_set_iff hlt).1 h4 with ⟨rfl, rfl⟩ | ⟨n2, h4⟩
    · rfl
    · exact h.apart id j b r q h1 h2 hr h4 (hl h5) h6
    · exact h.apart i id b p r h1 h2 h3 hr h5 hg
    · exact h.apart i j b p q h1 h2 h3 h4 h5 h6
  · intro i m b p h1 h2 h3
    exact h.placeX i m b p h1 (hold h2 h3) h3
  · intro i j m n b p q h1 h2 h3 h4 h5 h6
    have h3 := hold h3 h5
    rcases (get_set_iff hlt).1 h4 with ⟨rfl, rfl⟩ | ⟨n2, h4⟩
    · exact ⟨(h.apartX i id m n b p r h1 h2 h3 hr h5 hg).1, fun h7 => by rw [hx] at h7; cases h7⟩
    · exact h.apartX i j m n b p q h1 h2 h3 h4 h5 h6
  · intro i o s h1 h2
    rcases (get_set_iff hlt).1 h2 with ⟨rfl, rfl⟩ | ⟨n1, h2⟩
    · exact hrel _ _ ((h.rel id o r h1 hr).mono ev.ok ev.same ev.pre ev.shape (fun _ _ => rfl) (fun _ _ => rfl))
    · exact (h.rel i o s h1 h2).mono ev.ok ev.same ev.pre ev.shape (fun _ _ => rfl) (fun _ _ => rfl)

theorem ak_swap {id : Nat} {r r' : Row} (hr : st.rows[id]? = some r) (hl : r'.live = true → r.live = true) (hg : r ≠ .gone)
    (hrel : ∀ (w : World) (μ : List (Option Nat)) (ok : Bool → Nat → Prop) (ob : Option Nat), RowRel w ok μ ob r → RowRel w ok μ ob r') (hs : st' = { st with rows := st.rows.set id r' }) (h : AK X f k Q st') (hx : ∀ w m, r'.ext w m = [] := by intros; rfl) : AK X f k Q st := by
  subst hs
  intro a C hC b cs hb hk
  obtain ⟨h1, h2⟩ := rel_swap hC.rel (by rw [hC.rows]; exact hr) hl hg (hrel C.w C.μ) hx
  have := hC.moved h2 h1
  simp only at this
  rw [hC.rows] at this
  obtain ⟨C', fr, q1, q2, q3⟩ := h a _ this b cs hb hk
  exact ⟨C', fr, q1, q2, q3⟩

theorem ak_freeze (id : Nat) {kk n : Nat} {ty : TypeId} {g : Nat → List DV} (hr : st.rows[id]? = some (.flat false kk ty n g)) (hs : st' = { st with rows := st.rows.set id (.flat true kk ty n g) }) (h : AK X f k Q st') : AK X f k Q st :=
  ak_swap hr (by intro h; cases h) (by simp) (fun w μ ok ob h => by cases ob <;> exact h) hs h

theorem ak_row (id : Nat) {kk n : Nat} {fz : Bool} {ty : TypeId} {g : Nat → List DV} (g' : Nat → List DV) (hr : st.rows[id]? = some (.flat fz kk ty n g)) (hg : ∀ i, i < n → g i = g' i)
    (hs : st' = { st with rows := st.rows.set id (.flat fz kk ty n g') }) (h : AK X f k Q st') : AK X f k Q st :=
  ak_swap (r' := .flat fz kk ty n g') hr (fun h => h) (by simp) (fun w μ ok ob h => by
    cases ob with
    | none => exact h
    | some b =>
      obtain ⟨cs, vs, h1, h2, h3, h4, h5⟩ := h
      exact ⟨cs, vs, h1, h2, h3, fun i hi => hg i hi ▸ h4 i hi, h5⟩) hs h

theorem vec_lit {α : Type} {enc : α → List DV} {z : α} {xs : List α} : ∀ i, i < xs.length → (fun j => (xs.map enc).getD j []) i = vec enc z xs i := by
  intro i hi
  simp [vec, hi]

/-! ### A row that is not turned any more, read -/
mutual
inductive Seals (rows : List Row) : AV → DV → Prop
  | d (x : DV) : Seals rows (.d x) x
  | nil (g : Nat → List DV) : Seals rows (.d (.v (.slice none 0 0))) (.sl true 0 g)
  | own {id k n : Nat} {ty : TypeId} {g : Nat → List DV} (h : rows[id]? = some (.flat true k ty n g)) : Seals rows (.own id k 0 n) (.sl true n g)
  | part {id k off m n : Nat} {ty : TypeId} {g : Nat → List DV} (h : rows[id]? = some (.flat true k ty n g)) (hm : off + m ≤ n) : Seals rows (.own id k off m) (.sl true m fun j => g (off + j))
  | agg {xs : List AV} {ys : List DV} (h : SealsL rows xs ys) : Seals rows (.agg xs) (.agg ys)
  | aggd {xs : List DV} {ys : List DV} (h : SealsL rows (xs.map .d) ys) : Seals rows (.d (.agg xs)) (.agg ys)
inductive SealsL (rows : List Row) : List AV → List DV → Prop
  | nil : SealsL rows [] []
  | cons {x : AV} {y : DV} {xs : List AV} {ys : List DV} (h : Seals rows x y) (hs : SealsL rows xs ys) : SealsL rows (x :: xs) (y :: ys)
end

theorem frozen_ok {C : Conf} (h : HRel X C) {id b k n : Nat} {ty : TypeId} {g : Nat → List DV} (hμ : C.μ[id]? = some (some b)) (hr : C.rows[id]? = some (.flat true k ty n g)) : C.ok X true b := by
  obtain ⟨h1, h2⟩ := h.place id b hμ
  refine ⟨h2, ?_, fun _ => .inr h1⟩
  rintro ⟨j, m, r, e1, e2, e3, e4⟩
  have := h.apartB e1 hμ e2 hr e3 (by simp) e4 (.inl rfl)
  subst this
  rw [hr] at e2
  injection e2 with e2
  subst e2
  cases e3

theorem sl_part {C : Conf} (h : HRel X C) {id k off m n : Nat} {ty : TypeId} {g g' : Nat → List DV} (hr : C.rows[id]? = some (.flat true k ty n g)) (hm : off + m ≤ n) (hg : ∀ j, j < m → g' j = g (off + j)) {v : Value}
    (hv : AVR C.w (C.ok X) C.μ (.own id k off m) v) : VR C.w (C.ok X) (.sl true m g') v := by
  cases hv with
  | own0 _ => exact .sl0
  | own hμ hh hs hn hc =>
    obtain ⟨cs', vs, r1, r2, r3, r4, r5⟩ := h.rel id _ _ hμ hr
    rename_i b c cs ty'
    rcases Nat.eq_zero_or_pos m with h0 | h0
    · subst h0; exact .sl0
    · refine .sl k (fun j => vs (off + j)) h0 hn (frozen_ok h hμ hr) (fun i hi => r3 _ (by omega)) (fun i hi => by rw [hg i hi]; exact r4 _ (by omega)) (fun i j v hi hj => ?_)
      rw [cell_of_row _ _ _ _ _ _ r1]
      have := r5 (off + i) j v (by omega) hj
      rw [Nat.add_mul] at this
      exact this

mutual
theorem seals_rel {C : Conf} (h : HRel X C) : ∀ {x : AV} {y : DV} {v : Value}, Seals C.rows x y → AVR C.w (C.ok X) C.μ x v → VR C.w (C.ok X) y v
  | _, _, _, .d x, .d hv => hv
  | _, _, v, .nil g, hv => by
    have := hv.v_inv
    subst this
    exact .sl0
  | _, _, _, .own hr, hv => sl_part h hr (by omega) (fun j _ => by rw [Nat.zero_add]) hv
  | _, _, _, .part hr hm, hv => sl_part h hr hm (fun _ _ => rfl) hv
  | _, _, _, .agg hs, hv => by
    cases hv with
    | agg hv => exact .agg (sealsL_rel h hs hv)
  | _, _, _, .aggd hs, hv => by
    cases hv with
    | d hv =>
      cases hv with
      | agg hv => exact .agg (sealsL_rel h hs hv.toA)
theorem sealsL_rel {C : Conf} (h : HRel X C) : ∀ {x : List AV} {y : List DV} {v : List Value}, SealsL C.rows x y → AVRs C.w (C.ok X) C.μ x v → VRs C.w (C.ok X) y v
  | _, _, _, .nil, .nil => .nil
  | _, _, _, .cons k ks, .cons h1 hv hs => .cons h1 (seals_rel h k hv) (sealsL_rel h ks hs)
end

theorem ak_seal (i : Nat) {av : AV} {y : DV} (e : st.tm.lookup i = some av) (hs : Seals st.rows av y) (he : st' = { st with tm := (i, .d y) :: st.tm }) (h : AK X f k Q st') : AK X f k Q st := by
  subst he
  intro a C hC b cs hb hk
  refine h a C ⟨hC.rel, hC.rows, hC.defers, hC.nt, fun j av' e' => ?_⟩ b cs hb hk
  simp only [List.lookup_cons] at e'
  split at e'
  · rename_i hj
    have hj : j = i := by simpa using hj
    subst hj
    injection e' with e'
    subst e'
    obtain ⟨v, h1, h2⟩ := hC.tm j _ e
    rw [← hC.rows] at hs
    exact ⟨v, h1, .d (seals_rel hC.rel hs h2)⟩
  · exact hC.tm j av' e'

/-! ### A binary operation that asks something of the numbers -/
def binAt (T : Tab) (st : St) (k : List Item) : Option (BinOp × TypeId × Value × Value × Option Tmp × List Item) :=
  match topOp st k with
  | some (o, k') =>
    match o.op with
    | .binOp op t x y _ =>
      match valOf st.tm x, valOf st.tm y with
      | some (.d (.v u)), some (.d (.v v)) => bif boolOk T t u then some (op, t, u, v, o.dst, k') else none
      | _, _ => none
    | _ => none
  | none => none

theorem ak_bin0 (hT : TabOk X.P T) {op : BinOp} {t : TypeId} {u v z : Value} {dst : Option Tmp} (e1 : binAt T st k = some (op, t, u, v, dst, k')) (hz : binV op u v = some z)
    (h1 : St.put st dst (.d (.v z)) = some st') (h : AK X f k' Q st') : AK X f k Q st := by
  unfold binAt at e1
  split at e1
  · rename_i o k3 htop
    split at e1
    · rename_i op' t' x y ty hop
      split at e1
      · rename_i u' v' hx hy
        cases hb : boolOk T t' u' with
        | false => rw [hb] at e1; cases e1
        | true =>
          rw [hb] at e1
          simp only [cond_true, Option.some.injEq, Prod.mk.injEq] at e1
          obtain ⟨rfl, rfl, rfl, rfl, rfl, rfl⟩ := e1
          refine ak_top htop h fun a C hC => ⟨z, C, st, ?_, hC, _, h1, .d (.v (binV_one hz))⟩
          have hu := (hC.val _ _ hx).v_inv
          have hv := (hC.val _ _ hy).v_inv
          have := binV_run (P := X.P) (w := C.w) (t := t') (x := x) (y := y) hz (fun p q h1 h2 => by
            subst h1
            exact hT.bools.mem _ (by simpa [boolOk] using hb))
          simp only [execOp, hop, hu, hv]
          rw [Sem.run_bind, this]
          rfl
      · cases e1
    · cases e1
  · cases e1
theorem ak_bin (hT : TabOk X.P T) (S : List Nat) {op : BinOp} {t : TypeId} {u v z : Value} {dst : Option Tmp} (e1 : binAt T st k = some (op, t, u, v, dst, k')) (hz : binV op u v = some z)
    (hput : (St.put st dst (.d (.v z))).map (St.only S) = some st') (h : AK X f k' Q st') : AK X f k Q st := by
  obtain ⟨s0, h1, rfl⟩ := Option.map_eq_some_iff.1 hput
  exact ak_bin0 hT e1 hz h1 (ak_only S h)
end
end Go.Sy
