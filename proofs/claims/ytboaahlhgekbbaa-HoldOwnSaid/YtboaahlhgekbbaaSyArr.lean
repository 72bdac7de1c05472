/- Big arrays: rows of one cell each, and windows into them. -/
import Derived.Test.YtboaahlhgekbbaaSyStr2
import Derived.Test.YtboaahlhgekbbaaSyDr
set_option linter.unusedVariables false
set_option linter.unusedSimpArgs false
namespace Go.Sy
section
variable {X : Ctx} {T : Tab} {f : FuncId} {k k' : List Item} {Q : Frame → Frame → Conf → Prop} {st st' : St}

def dv0 : DV := .v (.bool false)
theorem row_cells {w : World} {ok : Bool → Nat → Prop} {g : Nat → List DV} {vs : Nat → List Value} : ∀ (ds : List DV) (A : Nat), (∀ j, j < ds.length → g (A + j) = [ds.getD j dv0]) → (∀ j, j < ds.length → VRs w ok (g (A + j)) (vs (A + j))) →
    ∃ us : List Value, us.length = ds.length ∧ VRs w ok ds us ∧ ∀ (j : Nat) v, us[j]? = some v → vs (A + j) = [v]
  | [], A, _, _ => ⟨[], rfl, .nil, fun j v h => by simp at h⟩
  | d :: ds, A, hg, hv => by
    obtain ⟨us, h1, h2, h3⟩ := row_cells (w := w) (ok := ok) (g := g) (vs := vs) ds (A + 1) (fun j hj => by
      have := hg (j + 1) (by simp; omega)
      rw [show A + 1 + j = A + (j + 1) by omega, this]
      simp) (fun j hj => by
      have := hv (j + 1) (by simp; omega)
      rwa [show A + (j + 1) = A + 1 + j by omega] at this)
    have h0 := hv 0 (by simp)
    have g0 := hg 0 (by simp)
    rw [Nat.add_zero] at h0 g0
    rw [g0] at h0
    simp only [List.getD_cons_zero] at h0
    generalize hq : vs A = q at h0
    cases h0 with
    | cons o1 o2 o3 =>
      cases o3
      rename_i v
      refine ⟨v :: us, by simp [h1], .cons o1 o2 h2, fun j u hj => ?_⟩
      cases j with
      | zero =>
        simp at hj
        subst hj
        rw [Nat.add_zero, hq]
      | succ j =>
        have := h3 j u (by simpa using hj)
        rw [show A + (j + 1) = A + 1 + j by omega]
        exact this

/-! ### Results that may be nil -/
def optA {α : Type} (o : Option α) (id : Nat) : AV := match o with | none => .d (.v (.pointer none)) | some _ => .ptr id 0 0 0
def optR {α : Type} (o : Option α) (f : α → Row) : List Row := match o with | none => [] | some t => [f t]
@[reducible] def optE {α β : Type} (o : Option α) (a : β) (b : α → β) : β := match o with | none => a | some t => b t
theorem ioptN {α β : Type} {a : β} {b : α → β} {x : β} (H : optE none a b = x) : a = x := H
theorem ioptS {α β : Type} {a : β} {b : α → β} {t : α} {x : β} (H : optE (some t) a b = x) : b t = x := H
theorem soptN {α σ ρ : Type} {a : Option (σ ⊕ ρ)} {b : α → Option (σ ⊕ ρ)} {g : σ → Option ρ} {r : ρ} (H : stk (optE none a b) g = some r) : stk a g = some r := H
theorem soptS {α σ ρ : Type} {a : Option (σ ⊕ ρ)} {b : α → Option (σ ⊕ ρ)} {t : α} {g : σ → Option ρ} {r : ρ} (H : stk (optE (some t) a b) g = some r) : stk (b t) g = some r := H

/-! ### Arrays as functions -/
/-- The cells of an array, one by one. -/
def arrG {α : Type} (e : α → List DV) (s : Nat) (x : Nat → α) (j : Nat) : List DV := [(e (x (j / s))).getD (j % s) dv0]
/-- The cells of an array, as a list. -/
def arrL {α : Type} (e : α → List DV) (x : Nat → α) (n : Nat) : List DV := (List.range n).flatMap fun i => e (x i)
theorem arrL_length {α : Type} {e : α → List DV} {s : Nat} (he : ∀ y, (e y).length = s) (x : Nat → α) : ∀ n, (arrL e x n).length = n * s
  | 0 => by simp [arrL]
  | n + 1 => by
    have := arrL_length he x n
    unfold arrL at this ⊢
    rw [List.range_succ, List.flatMap_append, List.length_append, this]
    simp [he, Nat.add_mul]
theorem arrL_split {α : Type} {e : α → List DV} (x : Nat → α) : ∀ n m, arrL e x (n + m) = arrL e x n ++ arrL e (fun i => x (n + i)) m := by
  intro n m
  unfold arrL
  rw [List.range_add, List.flatMap_append, List.flatMap_map]
theorem arrL_at {α : Type} {e : α → List DV} {s : Nat} (he : ∀ y, (e y).length = s) (x : Nat → α) {n i : Nat} (hi : i < n) : ((arrL e x n).drop (i * s)).take s = e (x i) := by
  obtain ⟨m, rfl⟩ : ∃ m, n = i + (1 + m) := ⟨n - i - 1, by omega⟩
  rw [arrL_split, List.drop_append, List.drop_of_length_le (by rw [arrL_length he]; exact Nat.le_refl _), arrL_length he, Nat.sub_self, List.drop_zero, List.nil_append, arrL_split]
  have : arrL e (fun j => x (i + j)) 1 = e (x i) := by simp [arrL]
  rw [this, List.take_append_of_le_length (by rw [he]; exact Nat.le_refl _), List.take_of_length_le (by rw [he]; exact Nat.le_refl _)]
theorem arrL_get {α : Type} {e : α → List DV} {s : Nat} (hs : 0 < s) (he : ∀ y, (e y).length = s) (x : Nat → α) {n j : Nat} (hj : j < n * s) : [(arrL e x n).getD j dv0] = arrG e s x j := by
  unfold arrG
  congr 1
  have hi : j / s < n := Nat.div_lt_of_lt_mul (by rwa [Nat.mul_comm] at hj)
  have h := arrL_at he x hi
  have hm := Nat.mod_lt j hs
  have hdm : j / s * s + j % s = j := by rw [Nat.mul_comm]; exact Nat.div_add_mod j s
  have := congrArg (fun l => l[j % s]?) h
  simp only [List.getElem?_take_of_lt hm, List.getElem?_drop, hdm] at this
  rw [List.getD_eq_getElem?_getD, List.getD_eq_getElem?_getD, this]
/-- An element's cells. -/
theorem arrG_at {α : Type} {e : α → List DV} {s : Nat} (x : Nat → α) {i j : Nat} (hj : j < s) : arrG e s x (i * s + j) = [(e (x i)).getD j dv0] := by
  unfold arrG
  have hs : 0 < s := by omega
  rw [show (i * s + j) / s = i by rw [Nat.mul_comm, Nat.mul_add_div hs, Nat.div_eq_of_lt hj, Nat.add_zero], show (i * s + j) % s = j by rw [Nat.mul_comm, Nat.mul_add_mod, Nat.mod_eq_of_lt hj]]
def upd {α : Type} (x : Nat → α) (i : Nat) (v : α) : Nat → α := fun j => if j = i then v else x j
theorem arrG_upd {α : Type} {e : α → List DV} {s : Nat} (hs : 0 < s) (x : Nat → α) (i : Nat) (v : α) (j : Nat) : arrG e s (upd x i v) j = if i * s ≤ j ∧ j < i * s + s then [(e v).getD (j - i * s) dv0] else arrG e s x j := by
  unfold arrG upd
  by_cases h : j / s = i
  · subst h
    have hdm : j / s * s + j % s = j := by rw [Nat.mul_comm]; exact Nat.div_add_mod j s
    have hm := Nat.mod_lt j hs
    rw [if_pos rfl, if_pos (by omega), show j - j / s * s = j % s by omega]
  · rw [if_neg h, if_neg]
    rintro ⟨h1, h2⟩
    apply h
    obtain ⟨q, rfl⟩ : ∃ q, j = i * s + q := ⟨j - i * s, by omega⟩
    rw [Nat.mul_comm, Nat.mul_add_div hs, Nat.div_eq_of_lt (by omega), Nat.add_zero]
theorem getD_nl {ds : List DV} (h : NLs ds) (j : Nat) : NLs [ds.getD j dv0] := by
  have : ∀ {ds : List DV}, NLs ds → ∀ j, NL (ds.getD j dv0) := by
    intro ds h
    induction ds with
    | nil => intro j; simpa [dv0] using NL.v _
    | cons d ds ih =>
      intro j
      cases h with
      | cons h hs =>
        cases j with
        | zero => simpa using h
        | succ j => simpa using ih hs j
  exact .cons (this h j) .nil
theorem arrG_nl {α : Type} {e : α → List DV} {s : Nat} {x : Nat → α} {j : Nat} (h : ∀ y, NLs (e y)) : NLs (arrG e s x j) := getD_nl (h _) _
theorem zcat {α : Type} {e : α → List DV} {s n N : Nat} (hs : 0 < s) (he : ∀ y, (e y).length = s) (hN : n * s = N) {x : Nat → α} {rest : List DV} {j : Nat} : [(arrL e x n ++ rest).getD j dv0] = if j < N then arrG e s x j else [rest.getD (j - N) dv0] := by
  subst hN
  by_cases h : j < n * s
  · rw [if_pos h, ← arrL_get hs he x h]
    congr 1
    rw [List.getD_eq_getElem?_getD, List.getElem?_append_left (by rw [arrL_length he]; exact h), ← List.getD_eq_getElem?_getD]
  · rw [if_neg h]
    congr 1
    rw [List.getD_eq_getElem?_getD, List.getElem?_append_right (by rw [arrL_length he]; omega), arrL_length he, ← List.getD_eq_getElem?_getD]
/-- A window's elements, as a list. -/
def winL {α : Type} (x : Nat → α) (a n : Nat) : List α := (List.range n).map fun j => x (a + j)
theorem winL_length {α : Type} (x : Nat → α) (a n : Nat) : (winL x a n).length = n := by simp [winL]
theorem winL_get {α : Type} (x : Nat → α) (a n : Nat) {j : Nat} (hj : j < n) (z : α) : (winL x a n).getD j z = x (a + j) := by
  rw [List.getD_eq_getElem?_getD]
  simp [winL, hj]
/-! ### Loads -/
def bldAt (T : Tab) (st : St) (k : List Item) : Option (Nat × Nat × Bool × Nat × (Nat → List DV) × Option Tmp × List Item) :=
  match topOp st k with
  | some (o, k') =>
    match o.op with
    | .load t x =>
      match T.aggs.lookup t, T.info.lookup t with
      | some agg, some (s, _, _) =>
        match valOf st.tm x with
        | some (.ptr id kk i off) =>
          match st.rows[id]? with
          | some (.flat _ k2 _ n g) => bif Nat.beq k2 1 then some (i * kk + off, s, agg, n, g, o.dst, k') else none
          | _ => none
        | _ => none
      | _, _ => none
    | _ => none
  | none => none

theorem ak_bld0 (hT : TabOk X.P T) {A s n : Nat} {agg : Bool} {g : Nat → List DV} {dst : Option Tmp} (ds : List DV) (e : bldAt T st k = some (A, s, agg, n, g, dst, k')) (hA : A + s ≤ n) (hl : ds.length = s) (hs : agg = false → s = 1)
    (hg : ∀ j, j < s → g (A + j) = [ds.getD j dv0]) (hput : St.put st dst (if agg then .d (.agg ds) else .d (ds.getD 0 dv0)) = some st') (h : AK X f k' Q st') : AK X f k Q st := by
  unfold bldAt at e
  split at e
  · rename_i o k3 htop
    split at e
    · rename_i t x hop
      split at e
      · rename_i agg' s' by' z hag hi
        split at e
        · rename_i id kk i off hx
          split at e
          · rename_i fz k2 ty n' g' hrow
            cases hb : Nat.beq k2 1 with
            | false => rw [hb] at e; cases e
            | true =>
              rw [hb] at e
              have hk2 := Nat.eq_of_beq_eq_true hb
              subst hk2
              simp only [cond_true, Option.some.injEq, Prod.mk.injEq] at e
              obtain ⟨rfl, rfl, rfl, rfl, rfl, rfl, rfl⟩ := e
              refine ak_top htop h fun a C hC => ?_
              obtain ⟨b, hμ, hu⟩ := (hC.val _ _ hx).ptr_inv
              obtain ⟨cs, vs, r1, r2, r3, r4, r5⟩ := hC.rel.rel id _ _ hμ (by rw [hC.rows]; exact hrow)
              obtain ⟨us, u1, u2, u3⟩ := row_cells ds (i * kk + off) (fun j hj => hg j (by omega)) (fun j hj => r4 _ (by omega))
              have hm : ∀ (j : Nat) v, us[j]? = some v → C.w.cell? ⟨b, i * kk + off + j, none⟩ = some v := fun j v hj => by
                have hjl := (List.getElem?_eq_some_iff.1 hj).1
                have := r5 (i * kk + off + j) 0 v (by omega) (by rw [u3 j v hj]; rfl)
                rw [cell_of_row _ _ _ _ _ _ r1]
                simpa using this
              cases agg' with
              | true =>
                have := run_loadVar_at hT (w := C.w) (b := b) (off := i * kk + off) hag hi us (fun _ => by omega) hm undef (by simp)
                simp only [if_true] at this
                refine ⟨.agg us.toArray, C, st, ?_, hC, _, hput, ?_⟩
                · simp only [execOp, hop, hu, Instr.loadAt, Instr.sureAddr, Sem.run_bind, Sem.run_pure, Result.andThen_ok, this]
                · simp only [if_true]
                  exact .d (.agg u2)
              | false =>
                have hs1 := hs rfl
                obtain ⟨d, hd⟩ : ∃ d, ds = [d] := List.length_eq_one_iff.1 (by omega)
                subst hd
                cases u2 with
                | cons o1 o2 o3 =>
                  cases o3
                  rename_i v
                  have := run_loadVar_at hT (w := C.w) (b := b) (off := i * kk + off) hag hi [v] (by simp) hm v (fun _ => rfl)
                  simp only [Bool.false_eq_true, if_false] at this
                  refine ⟨v, C, st, ?_, hC, _, hput, ?_⟩
                  · simp only [execOp, hop, hu, Instr.loadAt, Instr.sureAddr, Sem.run_bind, Sem.run_pure, Result.andThen_ok, this]
                  · exact .d o2
          · cases e
        · cases e
      · cases e
    · cases e
  · cases e
theorem ak_bld (hT : TabOk X.P T) (S : List Nat) {A s n : Nat} {agg : Bool} {g : Nat → List DV} {dst : Option Tmp} (ds : List DV) (e : bldAt T st k = some (A, s, agg, n, g, dst, k')) (hA : A + s ≤ n) (hl : ds.length = s) (hs : agg = false → s = 1)
    (hg : ∀ j, j < s → g (A + j) = [ds.getD j dv0]) (hput : (St.put st dst (if agg then .d (.agg ds) else .d (ds.getD 0 dv0))).map (St.only S) = some st') (h : AK X f k' Q st') : AK X f k Q st := by
  obtain ⟨s0, h1, rfl⟩ := Option.map_eq_some_iff.1 hput
  exact ak_bld0 hT ds e hA hl hs hg h1 (ak_only S h)

/-! ### Stores -/
def bstAt (T : Tab) (st : St) (k : List Item) : Option (Nat × Nat × Nat × List DV × List Item) :=
  match topOp st k with
  | some (o, k') =>
    match o.op with
    | .store t x y =>
      match T.info.lookup t, valOf st.tm x, valOf st.tm y with
      | some (s, _, _), some (.ptr id kk i off), some a =>
        match allD (cellsOf a) with
        | some ds => bif Nat.beq ds.length s && !isTup a && o.dst.isNone then some (id, i * kk + off, s, ds, k') else none
        | none => none
      | _, _, _ => none
    | _ => none
  | none => none

theorem ak_bst0 (hT : TabOk X.P T) {id A s n : Nat} {ty : TypeId} {ds : List DV} {g : Nat → List DV} (g' : Nat → List DV) (e : bstAt T st k = some (id, A, s, ds, k')) (hr : st.rows[id]? = some (.flat false 1 ty n g)) (hA : A + s ≤ n)
    (hg : ∀ i, i < n → g' i = if A ≤ i ∧ i < A + s then [ds.getD (i - A) dv0] else g i) (hs : st' = { st with rows := st.rows.set id (.flat false 1 ty n g') }) (h : AK X f k' Q st') : AK X f k Q st := by
  subst hs
  unfold bstAt at e
  split at e
  · rename_i o k3 htop
    split at e
    · rename_i t x y hop
      split at e
      · rename_i s0 by' z id0 kk0 i0 off0 a hi hx hy
        split at e
        · rename_i ds0 hds
          cases hb : (Nat.beq ds0.length s0 && !isTup a && o.dst.isNone) with
          | false => rw [hb] at e; cases e
          | true =>
            rw [hb] at e
            simp only [cond_true, Option.some.injEq, Prod.mk.injEq] at e
            obtain ⟨rfl, hAe, rfl, rfl, rfl⟩ := e
            simp only [Bool.and_eq_true, Bool.not_eq_true', Option.isNone_iff_eq_none] at hb
            obtain ⟨⟨b1, b3⟩, b4⟩ := hb
            have b1 := Nat.eq_of_beq_eq_true b1
            refine ak_top_skip htop b4 h fun a' C hC => ?_
            obtain ⟨b, hμ, hu⟩ := (hC.val _ _ hx).ptr_inv
            rw [hAe] at hu
            have hrow : C.rows[id0]? = some (.flat false 1 ty n g) := by rw [hC.rows]; exact hr
            obtain ⟨cs, vs, r1, r2, r3, r4, r5⟩ := hC.rel.rel id0 _ _ hμ hrow
            have hv := cellsOf_rel (hC.val _ _ hy) (isTup_ne b3)
            rw [allD_map hds] at hv
            have hv := hv.toD
            obtain ⟨v, hv0⟩ : ∃ v, a'.eval y = v := ⟨_, rfl⟩
            rw [hv0] at hv
            have hvl : v.cells.toList.length = s0 := by rw [← hv.length, b1]
            rw [Nat.mul_one] at r2
            have hst := run_storeCells_at X.P b A ty v.cells.toList 0 cs C.w r1 (by omega) hv.one
            let us : Array Value := (cs.toList.take (A + 0) ++ v.cells.toList ++ cs.toList.drop (A + 0 + v.cells.toList.length)).toArray
            have hus : us.size = cs.size := by
              simp only [us, List.size_toArray, List.length_append, List.length_take, List.length_drop, Array.length_toList, hvl]
              omega
            have tu := setRow_turns (r' := .flat false 1 ty n g') hC.rel hμ hrow rfl r1 hus
            have ev := Ev.turn hC.rel tu
            have hcell : ∀ q, us[q]? = if q < A then cs[q]? else if q < A + s0 then v.cells.toList[q - A]? else cs[q]? := by
              intro q
              simp only [us, List.getElem?_toArray, Nat.add_zero]
              have hl1 : (cs.toList.take A).length = A := by rw [List.length_take, Array.length_toList]; omega
              rw [List.getElem?_append, List.length_append, hl1, hvl]
              split
              · rename_i hq
                rw [List.getElem?_append, hl1]
                split
                · rename_i hq2
                  rw [List.getElem?_take_of_lt hq2]
                  simp
                · rfl
              · rename_i hq
                rw [if_neg (by omega)]
                rw [List.getElem?_drop, show A + s0 + (q - (A + s0)) = q from by omega]
                simp
            have hrel : HRel X (C.turn id0 (.flat false 1 ty n g') (C.w.setRow b us)) := by
              refine HRel.turn hC.rel tu (.inl (by simp)) ⟨us, fun j => if A ≤ j ∧ j < A + s0 then [v.cells.toList.getD (j - A) undef] else vs j, by simpa using setRow_heap _ _ _ _ _ _ r1, by rw [hus, Nat.mul_one]; exact r2, ?_, ?_, ?_⟩
              · intro j hj
                by_cases e : A ≤ j ∧ j < A + s0
                · simp only [if_pos e, List.length_singleton]
                · simp only [if_neg e]; exact r3 j hj
              · intro j hj
                rw [hg j hj]
                by_cases e : A ≤ j ∧ j < A + s0
                · simp only [if_pos e]
                  have hjl : j - A < ds0.length := by omega
                  obtain ⟨u, q1, q2, q3⟩ := hv.at_ (List.getElem?_eq_getElem hjl)
                  rw [List.getD_eq_getElem?_getD, List.getElem?_eq_getElem hjl, List.getD_eq_getElem?_getD, q1]
                  exact (VRs.cons q3 q2 .nil).mono ev.ok ev.same
                · simp only [if_neg e]
                  exact (r4 j hj).mono ev.ok ev.same
              · intro j q w hj hw
                rw [Nat.mul_one, hcell]
                by_cases e : A ≤ j ∧ j < A + s0
                · simp only [if_pos e] at hw
                  have hq0 : q = 0 := by
                    have := (List.getElem?_eq_some_iff.1 hw).1
                    simp at this
                    exact this
                  subst hq0
                  rw [Nat.add_zero, if_neg (by omega), if_pos e.2]
                  have hjl : j - A < v.cells.toList.length := by omega
                  rw [List.getD_eq_getElem?_getD, List.getElem?_eq_getElem hjl] at hw
                  rw [List.getElem?_eq_getElem hjl]
                  simpa using hw
                · simp only [if_neg e] at hw
                  have hq : q < 1 := by rw [← r3 j hj]; exact (List.getElem?_eq_some_iff.1 hw).1
                  have := r5 j q w hj hw
                  rw [Nat.mul_one] at this
                  by_cases h3 : j + q < A
                  · rw [if_pos h3]; exact this
                  · rw [if_neg h3, if_neg (by omega)]; exact this
            refine ⟨C.turn id0 (.flat false 1 ty n g') (C.w.setRow b us), ?_, ?_⟩
            · have hs := hT.size hi (w := C.w)
              have h1 : (Instr.storeAt t (a'.eval x) (a'.eval y)).run X.P C.w = .ok () (C.w.setRow b us) := by
                rw [hu, hv0]
                simp only [Instr.storeAt, Instr.sureAddr, storeVar, Sem.run_bind, Sem.run_pure, Result.andThen_ok, hs]
                rw [if_neg (by simp at hvl; simp [hvl])]
                exact hst
              simp only [execOp, hop]
              rw [Sem.run_bind, h1]
              rfl
            · have := hC.moved ev hrel
              simpa [Conf.turn, hC.rows] using this
        · cases e
      · cases e
    · cases e
  · cases e
theorem ak_bst (hT : TabOk X.P T) (S : List Nat) {id A s n : Nat} {ty : TypeId} {ds : List DV} {g : Nat → List DV} (g' : Nat → List DV) (e : bstAt T st k = some (id, A, s, ds, k')) (hr : st.rows[id]? = some (.flat false 1 ty n g)) (hA : A + s ≤ n)
    (hg : ∀ i, i < n → g' i = if A ≤ i ∧ i < A + s then [ds.getD (i - A) dv0] else g i) (hs : St.only S { st with rows := st.rows.set id (.flat false 1 ty n g') } = st') (h : AK X f k' Q st') : AK X f k Q st := by
  subst hs
  exact ak_bst0 hT g' e hr hA hg rfl (ak_only S h)

/-! ### A box seen as a row of cells -/
theorem ak_flatten (id n : Nat) {ty : TypeId} (ds : List DV) (g : Nat → List DV) (hr : st.rows[id]? = some (.box ty (ds.map .d))) (hn : ds.length = n) (hg : ∀ j, j < n → g j = [ds.getD j dv0]) (hs : st' = { st with rows := st.rows.set id (.flat false 1 ty n g) }) (h : AK X f k Q st') : AK X f k Q st := by
  subst hs
  intro a C hC b cs hb hk
  have hrow : C.rows[id]? = some (.box ty (ds.map .d)) := by rw [hC.rows]; exact hr
  obtain ⟨ob, hμ⟩ := hC.rel.muOf hrow
  have hrel := hC.rel.rel id _ _ hμ hrow
  cases ob with
  | none => exact absurd hrel (by simp [RowRel])
  | some bl =>
    obtain ⟨vs, h1, h2⟩ := hrel
    have h2d := h2.toD
    have tu : Turns X C id bl (.box ty (ds.map .d)) (.flat false 1 ty n g) C.w := ⟨hμ, hrow, rfl, rfl, rfl, ⟨rfl, Nat.le_refl _⟩, rfl, fun _ _ => rfl, fun cs ty hc => ⟨cs, hc, rfl⟩, fun _ _ => rfl, fun _ _ => rfl⟩
    have ev := Ev.turn hC.rel tu
    have hlen := h2d.length
    have hC2 := HRel.turn hC.rel tu (.inl (by simp)) ⟨vs.toArray, fun j => [vs.getD j undef], h1, by simp; omega, fun j _ => rfl, fun j hj => by
      rw [hg j hj]
      have hjl : j < ds.length := by omega
      obtain ⟨u, q1, q2, q3⟩ := h2d.at_ (List.getElem?_eq_getElem hjl)
      have e1 : ds.getD j dv0 = ds[j] := by rw [List.getD_eq_getElem?_getD, List.getElem?_eq_getElem hjl]; rfl
      have e2 : vs.getD j undef = u := by rw [List.getD_eq_getElem?_getD, q1]; rfl
      show VRs _ _ [ds.getD j dv0] [vs.getD j undef]
      rw [e1, e2]
      exact (VRs.cons q3 q2 .nil).mono ev.ok ev.same, fun j q u hj hq => by
      have hq0 : q = 0 := by
        have := (List.getElem?_eq_some_iff.1 hq).1
        simp at this
        exact this
      subst hq0
      have hjl : j < vs.length := by omega
      have e2 : vs.getD j undef = vs[j] := by rw [List.getD_eq_getElem?_getD, List.getElem?_eq_getElem hjl]; rfl
      change [vs.getD j undef][0]? = some u at hq
      rw [e2] at hq
      simp only [Nat.mul_one, Nat.add_zero]
      rw [List.getElem?_toArray, List.getElem?_eq_getElem hjl]
      simpa using hq⟩
    refine h a (C.turn id (.flat false 1 ty n g) C.w) ?_ b cs hb hk
    have := hC.moved ev hC2
    simpa [Conf.turn, hC.rows] using this

/-! ### A new big value -/
theorem arrL_const {α : Type} {e : α → List DV} {z : α} : ∀ n, arrL e (fun _ => z) n = (List.replicate n (e z)).flatten
  | 0 => rfl
  | n + 1 => by
    have := arrL_const (e := e) (z := z) n
    unfold arrL at this ⊢
    rw [List.range_succ, List.flatMap_append, this, List.replicate_succ', List.flatten_append]
    simp
theorem all_rep {l : List Value} (h : l.all (·.oneCell') = true) (n : Nat) : ((List.replicate n l).flatten).all (·.oneCell') = true := by
  rw [List.all_eq_true] at h ⊢
  intro v hv
  obtain ⟨m, hm, hv⟩ := List.mem_flatten.1 hv
  rw [(List.mem_replicate.1 hm).2] at hv
  exact h v hv
theorem all_app {a b : List Value} (ha : a.all (·.oneCell') = true) (hb : b.all (·.oneCell') = true) : (a ++ b).all (·.oneCell') = true := by
  rw [List.all_append, ha, hb]; rfl

def buildAt (T : Tab) (st : St) (k : List Item) : Option (List Value × Option Tmp × List Item) :=
  match topOp st k with
  | some (o, k') =>
    match o.op with
    | .build t parts =>
      match T.strts.lookup t, T.info.lookup t with
      | some _, some (_, _, z) => bif parts.isEmpty then some (z, o.dst, k') else none
      | _, _ => none
    | _ => none
  | none => none
theorem allD_mapd (ds : List DV) : allD (ds.map .d) = some ds := by
  induction ds with
  | nil => rfl
  | cons d ds ih => simp [allD, ih]
theorem ak_bigbuild (hT : TabOk X.P T) (S : List Nat) {z : List Value} {dst : Option Tmp} (ds : List DV) (e : buildAt T st k = some (z, dst, k')) (hz : z.map .v = ds) (h1c : z.all (·.oneCell') = true) (hput : (St.put st dst (.d (.agg ds))).map (St.only S) = some st') (h : AK X f k' Q st') : AK X f k Q st := by
  obtain ⟨s0, h1, rfl⟩ := Option.map_eq_some_iff.1 hput
  unfold buildAt at e
  split at e
  · rename_i o k3 htop
    split at e
    · rename_i t parts hop
      split at e
      · rename_i pl n by' z' hst hi
        cases hb : parts.isEmpty with
        | false => rw [hb] at e; cases e
        | true =>
          rw [hb] at e
          simp only [cond_true, Option.some.injEq, Prod.mk.injEq] at e
          obtain ⟨rfl, rfl, rfl⟩ := e
          have hp : parts = #[] := by simpa using hb
          refine ak_top htop (ak_only S h) fun a C hC => ?_
          have hev : evalPure T (valOf st.tm) o.op = some (.d (.agg ds)) := by
            rw [hop, hp]
            simp only [evalPure, hst, hi, fillA]
            have : (z'.map fun v => AV.d (.v v)) = ds.map .d := by rw [← hz, List.map_map]; rfl
            simp only [this, h1c, cond_true, Option.map_some, mkAgg, allD_mapd]
          obtain ⟨v, r1, r2⟩ := pure_run hT (fun x av e => hC.val x av e) (o := o) (w := C.w) hev
          exact ⟨v, C, st, r1, hC, _, h1, r2⟩
      · cases e
    · cases e
  · cases e
/-- .. in a variable of its own. -/
def bigboxAt (st : St) (k : List Item) : Option (Nat × TypeId × List DV × Option Tmp × List Item) :=
  match topOp st k with
  | some (o, k') =>
    match o.op with
    | .box t x =>
      match valOf st.tm x with
      | some (.d (.agg ds)) => some (st.rows.length, t, ds, o.dst, k')
      | _ => none
    | _ => none
  | none => none

/-! ### Windows -/
def winAt (T : Tab) (st : St) (k : List Item) : Option (Nat × Nat × Nat × Option (IntKind × Int) × Option (IntKind × Int) × Option Tmp × List Item) :=
  match topOp st k with
  | some (o, k') =>
    match o.op with
    | .slice t x lo hi none =>
      match valOf st.tm x, T.arrs.lookup t with
      | some (.ptr id kk i off), some (len, e) =>
        match T.info.lookup e, intOf? st.tm lo, intOf? st.tm hi with
        | some (s, _, _), some l, some h => bif Nat.beq s 1 && Nat.ble len 1000000 then some (id, i * kk + off, len, l, h, o.dst, k') else none
        | _, _, _ => none
      | _, _ => none
    | _ => none
  | none => none

/-- A part of an array. -/
theorem ak_win0 (hT : TabOk X.P T) {id A len m q : Nat} {l h : Option (IntKind × Int)} {dst : Option Tmp} (e : winAt T st k = some (id, A, len, l, h, dst, k')) (h0 : 0 ≤ loN l) (h1 : loN l ≤ hiN len h) (h2 : hiN len h ≤ len) (h3 : loN l < len)
    (hm : m = (hiN len h).toNat - (loN l).toNat) (hq : q = A + (loN l).toNat) (hput : St.put st dst (.win id q m) = some st') (hh : AK X f k' Q st') : AK X f k Q st := by
  unfold winAt at e
  split at e
  · rename_i o k3 htop
    split at e
    · rename_i t x lo hi hop
      split at e
      · rename_i id' kk i off len' el hx har
        split at e
        · rename_i s' b' z' l' h' hi1 hl hh1
          cases hb : (Nat.beq s' 1 && Nat.ble len' 1000000) with
          | false => rw [hb] at e; cases e
          | true =>
            rw [hb] at e
            simp only [Bool.and_eq_true] at hb
            have hs1 := Nat.eq_of_beq_eq_true hb.1
            have hlen := Nat.le_of_ble_eq_true hb.2
            subst hs1
            simp only [cond_true, Option.some.injEq, Prod.mk.injEq] at e
            obtain ⟨rfl, rfl, rfl, rfl, rfl, rfl, rfl⟩ := e
            refine ak_top htop hh fun a C hC => ?_
            obtain ⟨b, hμ, hu⟩ := (hC.val _ _ hx).ptr_inv
            have hut : X.P.underlying t = some (.array len' el) := hT.arrs.mem _ (lookup_mem har)
            have hal : X.P.arrayLen t = len' := by simp [Program.arrayLen, hut]
            have hel : X.P.elem t = el := by simp [Program.elem, hut]
            have hut2 : X.P.underlying t = some (.array (X.P.arrayLen t) (X.P.elem t)) := by rw [hal, hel]; exact hut
            have hsz : (sizeOf (X.P.elem t)).run X.P C.w = .ok 1 C.w := by rw [hel]; exact hT.size hi1 C.w
            have key : ∀ (y : Option Operand) (r : Option (IntKind × Int)), intOf? st.tm y = some r → y.map a.eval = r.map fun p => Value.int p.1 p.2 := by
              intro y r hy
              cases y with
              | none => simp only [intOf?, Option.some.injEq] at hy; subst hy; rfl
              | some y =>
                simp only [intOf?] at hy
                split at hy
                · rename_i kk ii hv
                  injection hy with hy
                  subst hy
                  have := (hC.val _ _ hv).v_inv
                  simp only [Option.map_some, this]
                · cases hy
            have hrun : (Instr.sliceAt t (.pointer (some ⟨b, i * kk + off, none⟩)) (l'.map fun p => .int p.1 p.2) (h'.map fun p => .int p.1 p.2) none).run X.P C.w = .ok (slicedAt ⟨b, i * kk + off, none⟩ (loN l').toNat (hiN len' h').toNat len' 1) C.w := by
              cases l' with
              | none =>
                cases h' with
                | none =>
                  have := run_sliceAt_array_all (P := X.P) C.w t ⟨b, i * kk + off, none⟩ hut2
                  rw [hsz, hal] at this
                  simpa [loN, hiN] using this
                | some p =>
                  have := run_sliceAt_array_h (P := X.P) C.w t ⟨b, i * kk + off, none⟩ hut2 p.1 p.2 (by simp only [loN, hiN] at *; omega) (by simp only [loN, hiN] at *; omega)
                  rw [hsz, hal] at this
                  simpa [loN, hiN] using this
              | some q =>
                cases h' with
                | none =>
                  have := run_sliceAt_array_l (P := X.P) C.w t ⟨b, i * kk + off, none⟩ hut2 q.1 q.2 (by simp only [loN, hiN] at *; omega) (by simp only [loN, hiN] at *; omega)
                  rw [hsz, hal] at this
                  simpa [loN, hiN] using this
                | some p =>
                  have := run_sliceAt_array_lh (P := X.P) C.w t ⟨b, i * kk + off, none⟩ hut2 q.1 p.1 q.2 p.2 (by simp only [loN, hiN] at *; omega) (by simp only [loN, hiN] at *; omega) (by simp only [loN, hiN] at *; omega)
                  rw [hsz, hal] at this
                  simpa [loN, hiN] using this
            refine ⟨slicedAt ⟨b, i * kk + off, none⟩ (loN l').toNat (hiN len' h').toNat len' 1, C, st, ?_, hC, _, hput, ?_⟩
            · simp only [execOp, hop, hu, key _ _ hl, key _ _ hh1, Option.map_none]
              rw [Sem.run_bind, hrun]
              rfl
            · unfold slicedAt
              rw [if_neg (by omega), add_none, Nat.mul_one, ← hm, ← hq]
              exact .win hμ (by omega) (by unfold maxLen; omega)
        · cases e
      · cases e
    · cases e
  · cases e
theorem ak_win (hT : TabOk X.P T) (S : List Nat) {id A len m q : Nat} {l h : Option (IntKind × Int)} {dst : Option Tmp} (e : winAt T st k = some (id, A, len, l, h, dst, k')) (h0 : 0 ≤ loN l) (h1 : loN l ≤ hiN len h) (h2 : hiN len h ≤ len) (h3 : loN l < len)
    (hm : m = (hiN len h).toNat - (loN l).toNat) (hq : q = A + (loN l).toNat) (hput : (St.put st dst (.win id q m)).map (St.only S) = some st') (hh : AK X f k' Q st') : AK X f k Q st := by
  obtain ⟨s0, h5, rfl⟩ := Option.map_eq_some_iff.1 hput
  exact ak_win0 hT e h0 h1 h2 h3 hm hq h5 (ak_only S hh)

/-- An element of an array that is a value. -/
def idxVAt (T : Tab) (st : St) (k : List Item) : Option (List DV × Int × Nat × Nat × Bool × Option Tmp × List Item) :=
  match topOp st k with
  | some (o, k') =>
    match o.op with
    | .index t x ix =>
      match valOf st.tm x, valOf st.tm ix, T.arrs.lookup t with
      | some (.d (.agg ds)), some (.d (.v (.int _ i))), some (len, e) =>
        match T.info.lookup e, T.aggs.lookup e with
        | some (s, _, _), some agg => some (ds, i, len, s, agg, o.dst, k')
        | _, _ => none
      | _, _, _ => none
    | _ => none
  | none => none
theorem ak_idxV0 (hT : TabOk X.P T) {ds : List DV} {i : Int} {len s : Nat} {agg : Bool} {dst : Option Tmp} (ds' : List DV) (e : idxVAt T st k = some (ds, i, len, s, agg, dst, k')) (h0 : 0 ≤ i) (h1 : i < len) (hd : (ds.drop (i.toNat * s)).take s = ds') (hl : ds'.length = s) (hs : agg = false → s = 1)
    (hput : St.put st dst (if agg then .d (.agg ds') else .d (ds'.getD 0 dv0)) = some st') (h : AK X f k' Q st') : AK X f k Q st := by
  unfold idxVAt at e
  split at e
  · rename_i o k3 htop
    split at e
    · rename_i t x ix hop
      split at e
      · rename_i ds0 ik i0 len' el hx hix har
        split at e
        · rename_i s' b' z' agg' hi1 hag
          simp only [Option.some.injEq, Prod.mk.injEq] at e
          obtain ⟨rfl, rfl, rfl, rfl, rfl, rfl, rfl⟩ := e
          refine ak_top htop h fun a C hC => ?_
          obtain ⟨cs, hcs, hrel⟩ := (hC.val _ _ hx).aggd_inv
          have ri := (hC.val _ _ hix).v_inv
          have hut : X.P.underlying t = some (.array len' el) := hT.arrs.mem _ (lookup_mem har)
          have hrel2 := (hrel.drop (i0.toNat * s')).take s'
          rw [hd] at hrel2
          have hsz := hT.size hi1 C.w
          have run : ∀ v, (part el cs.toArray (i0.toNat * s')).run X.P C.w = .ok v C.w → (execOp a.eval o).run X.P C.w = .ok (.value v) C.w := by
            intro v hv
            simp only [execOp, hop, hcs, ri, Instr.index, asIntOf, Sem.run_bind, Sem.run_pure, Result.andThen_ok, run_underlying hut]
            rw [if_pos ⟨h0, h1⟩]
            simp only [Sem.run_bind, Sem.run_pure, Result.andThen_ok, hsz, hv]
          cases agg' with
          | true =>
            refine ⟨.agg ((cs.drop (i0.toNat * s')).take s').toArray, C, st, run _ ?_, hC, _, hput, .d (.agg hrel2)⟩
            exact run_part hT hag hi1 cs _ (by simp) (fun h => by cases h)
          | false =>
            have hs1 := hs rfl
            obtain ⟨d, hd1⟩ : ∃ d, ds' = [d] := List.length_eq_one_iff.1 (by omega)
            rw [hd1] at hrel2 hput
            generalize hq : (cs.drop (i0.toNat * s')).take s' = q at hrel2
            cases hrel2 with
            | cons o1 o2 o3 =>
              cases o3
              rename_i v
              have hv : cs[i0.toNat * s']? = some v := by
                have := congrArg (fun l => l[0]?) hq
                simp only [List.getElem?_cons_zero] at this
                rw [List.getElem?_take] at this
                split at this
                · simpa using this
                · cases this
              refine ⟨v, C, st, run _ ?_, hC, _, hput, .d o2⟩
              exact run_part hT hag hi1 cs v (by simp) (fun _ => hv)
        · cases e
      · cases e
    · cases e
  · cases e
theorem ak_idxV (hT : TabOk X.P T) (S : List Nat) {ds : List DV} {i : Int} {len s : Nat} {agg : Bool} {dst : Option Tmp} (ds' : List DV) (e : idxVAt T st k = some (ds, i, len, s, agg, dst, k')) (h0 : 0 ≤ i) (h1 : i < len) (hd : (ds.drop (i.toNat * s)).take s = ds') (hl : ds'.length = s) (hs : agg = false → s = 1)
    (hput : (St.put st dst (if agg then .d (.agg ds') else .d (ds'.getD 0 dv0))).map (St.only S) = some st') (h : AK X f k' Q st') : AK X f k Q st := by
  obtain ⟨s0, h5, rfl⟩ := Option.map_eq_some_iff.1 hput
  exact ak_idxV0 hT ds' e h0 h1 hd hl hs h5 (ak_only S h)

end
end Go.Sy
