/- Words of the printed functions and of their proofs; the last rules. -/
import Derived.Test.YtboaahlhgekbbaaSyL
import Derived.KernelRfl
set_option linter.unusedVariables false
set_option linter.unusedSimpArgs false
namespace Go.Sy

/-! ### Plain words -/
def bnd {α β : Type} (x : α) (f : α → β) : β := f x
def iMax (a b : Int) : Int := if a < b then b else a
def iMin (a b : Int) : Int := if b < a then b else a
def bAnd (k : IntKind) (x y : Int) : Int := k.wrap (BitVec.ofInt k.bits x &&& BitVec.ofInt k.bits y).toNat
def bOr (k : IntKind) (x y : Int) : Int := k.wrap (BitVec.ofInt k.bits x ||| BitVec.ofInt k.bits y).toNat
def bXor (k : IntKind) (x y : Int) : Int := k.wrap (BitVec.ofInt k.bits x ^^^ BitVec.ofInt k.bits y).toNat
def bAndNot (k : IntKind) (x y : Int) : Int := k.wrap (BitVec.ofInt k.bits x &&& ~~~ (BitVec.ofInt k.bits y)).toNat

def stk {σ ρ : Type} (o : Option (σ ⊕ ρ)) (g : σ → Option ρ) : Option ρ :=
  match o with
  | none => none
  | some (.inl s) => g s
  | some (.inr r) => some r
def iter {σ ρ : Type} (step : σ → Option (σ ⊕ ρ)) : Nat → σ → Option ρ
  | 0, _ => none
  | n + 1, s => stk (step s) (iter step n)
open Classical in
/-- As many steps as it takes. -/
noncomputable def goLoop {σ ρ : Type} (step : σ → Option (σ ⊕ ρ)) (s : σ) : Option ρ :=
  if h : ∃ n, (iter step n s).isSome = true then iter step (Classical.choose h) s else none

theorem iter_more {σ ρ : Type} {step : σ → Option (σ ⊕ ρ)} : ∀ {n m : Nat} {s : σ} {r : ρ}, iter step n s = some r → n ≤ m → iter step m s = some r
  | 0, _, _, _, h, _ => by simp [iter] at h
  | n + 1, 0, _, _, _, h => by omega
  | n + 1, m + 1, s, r, h, hm => by
    simp only [iter] at h ⊢
    generalize step s = o at h ⊢
    match o, h with
    | some (.inl s'), h => exact iter_more (n := n) h (by omega)
    | some (.inr r'), h => exact h
theorem loop_iff {σ ρ : Type} {step : σ → Option (σ ⊕ ρ)} {s : σ} {r : ρ} : goLoop step s = some r ↔ ∃ n, iter step n s = some r := by
  unfold goLoop
  constructor
  · intro h
    split at h
    · exact ⟨_, h⟩
    · cases h
  · rintro ⟨n, h⟩
    have hx : ∃ n, (iter step n s).isSome = true := ⟨n, by rw [h]; rfl⟩
    rw [dif_pos hx]
    obtain ⟨r', h'⟩ := Option.isSome_iff_exists.1 (Classical.choose_spec hx)
    rw [h']
    rcases Nat.le_total n (Classical.choose hx) with e | e
    · rw [iter_more h e] at h'
      exact h'.symm
    · rw [iter_more h' e] at h
      exact h
theorem loopC {σ ρ : Type} {step : σ → Option (σ ⊕ ρ)} {s : σ} {r : ρ} (h : goLoop step s = some r) : ∃ n, iter step n s = some r := loop_iff.1 h
theorem loop_eq {σ ρ : Type} {step : σ → Option (σ ⊕ ρ)} {s : σ} : goLoop step s = stk (step s) (goLoop step) := by
  apply Option.ext
  intro r
  rw [loop_iff]
  constructor
  · rintro ⟨n, h⟩
    cases n with
    | zero => simp [iter] at h
    | succ n =>
      simp only [iter] at h
      generalize step s = o at h
      match o, h with
      | some (.inl s'), h => exact loop_iff.2 ⟨n, h⟩
      | some (.inr r'), h => exact h
  · intro h
    generalize e : step s = o at h
    match o, h, e with
    | some (.inl s'), h, e =>
      obtain ⟨n, h⟩ := loop_iff.1 h
      exact ⟨n + 1, by simp only [iter, e]; exact h⟩
    | some (.inr r'), h, e => exact ⟨1, by simp only [iter, e]; exact h⟩
/-- What a loop comes to: something that falls, something that stays. -/
theorem loop_to {σ ρ : Type} {step : σ → Option (σ ⊕ ρ)} (I : σ → Prop) (μ : σ → Nat) (post : ρ → Prop)
    (h : ∀ s, I s → (∃ s', step s = some (.inl s') ∧ I s' ∧ μ s' < μ s) ∨ ∃ r, step s = some (.inr r) ∧ post r) : ∀ s, I s → ∃ r, goLoop step s = some r ∧ post r := by
  have key : ∀ n s, μ s ≤ n → I s → ∃ r, goLoop step s = some r ∧ post r := by
    intro n
    induction n with
    | zero =>
      intro s hn hs
      rcases h s hs with ⟨s', _, _, h3⟩ | ⟨r, h1, h2⟩
      · omega
      · exact ⟨r, by rw [loop_eq, h1]; rfl, h2⟩
    | succ n ih =>
      intro s hn hs
      rcases h s hs with ⟨s', h1, h2, h3⟩ | ⟨r, h1, h2⟩
      · obtain ⟨r, e1, e2⟩ := ih s' (by omega) h2
        exact ⟨r, by rw [loop_eq, h1]; exact e1, e2⟩
      · exact ⟨r, by rw [loop_eq, h1]; rfl, h2⟩
  exact fun s => key (μ s) s (Nat.le_refl _)

/-! ### Down a printed function -/
section
variable {α β γ σ ρ : Type} {K : α → β} {c : Prop} [Decidable c] {a b : α} {x : β} {y : γ}
theorem iteT (h : c) (H : K (if c then a else b) = x) : K a = x := by rwa [if_pos h] at H
theorem iteF (h : ¬ c) (H : K (if c then a else b) = x) : K b = x := by rwa [if_neg h] at H
theorem iteC {K : Option α → Option γ} {a : Option α} (h0 : K none = none) (H : K (if c then a else none) = some y) : c ∧ K a = some y := by
  by_cases h : c
  · exact ⟨h, by rwa [if_pos h] at H⟩
  · rw [if_neg h, h0] at H; cases H
theorem bindC {δ : Type} {K : Option α → Option γ} {o : Option δ} {f : δ → Option α} (h0 : K none = none) (H : K (o.bind f) = some y) : ∃ v, o = some v ∧ K (f v) = some y := by
  cases o with
  | none => rw [Option.bind_none, h0] at H; cases H
  | some v => exact ⟨v, rfl, H⟩
theorem bndC {δ : Type} {e : δ} {f : δ → α} (H : K (bnd e f) = x) : ∃ v, v = e ∧ K (f v) = x := ⟨e, rfl, H⟩
theorem retC {a b : α} (H : some a = some b) : a = b := by injection H
theorem mapC {o : Option ρ} {g : σ → Option ρ} {r : ρ} (H : stk (o.map Sum.inr) g = some r) : o = some r := by
  cases o with
  | none => cases H
  | some v => exact H
theorem iter0 {step : σ → Option (σ ⊕ ρ)} {s : σ} {r : ρ} {p : Prop} (H : iter step 0 s = some r) : p := by cases H
end
theorem eqT {a b : Int} (h : a = b) : (a == b) = true := by simp [h]
theorem eqF {a b : Int} (h : ¬ a = b) : (a == b) = false := by simp [h]
theorem neT {a b : Int} (h : ¬ a = b) : (a != b) = true := by simp [h]
theorem neF {a b : Int} (h : a = b) : (a != b) = false := by simp [h]
theorem boF {b : Bool} (h : ¬ b = true) : b = false := by simpa using h
theorem ltN {i : Int} {n : Nat} (h0 : 0 ≤ i) (h1 : i < n) : i.toNat < n := by omega

/-! ### Plain types -/
def eI (k : IntKind) (n : Int) : List DV := [.v (.int k n)]
def eB (b : Bool) : List DV := [.v (.bool b)]
def eS (s : ByteArray) : List DV := [.v (.string s)]
def sZ : ByteArray := ⟨#[]⟩
def eL {α : Type} (e : α → List DV) (z : α) (xs : List α) : List DV := [.sl true xs.length (vec e z xs)]
theorem nlI (k : IntKind) (n : Int) : NLs (eI k n) := .cons (.v _) .nil
theorem nlB (b : Bool) : NLs (eB b) := .cons (.v _) .nil
theorem nlS (b : ByteArray) : NLs (eS b) := .cons (.v _) .nil
theorem nlL {α : Type} {e : α → List DV} {z : α} (h : ∀ x, NLs (e x)) (xs : List α) : NLs (eL e z xs) := .cons (.sl fun _ _ => h _) .nil
theorem NLs.app : ∀ {xs ys : List DV}, NLs xs → NLs ys → NLs (xs ++ ys)
  | [], _, _, h => h
  | _ :: _, _, .cons h hs, k => .cons h (NLs.app hs k)
theorem nr_vec {α : Type} {e : α → List DV} {z : α} (h : ∀ x, NLs (e x)) {fz : Bool} {k ty n : Nat} {xs : List α} : NR (.flat fz k ty n (vec e z xs)) := .flat fun _ _ => h _
theorem all_nil {r : Row} (h : r ∈ ([] : List Row)) : NR r := by cases h
theorem all_cons {r s : Row} {rs : List Row} (h1 : NR s) (h2 : ∀ r ∈ rs, NR r) (h : r ∈ s :: rs) : NR r := by
  rcases List.mem_cons.1 h with rfl | h
  · exact h1
  · exact h2 r h

/-! ### Rules -/
theorem passes_d {rows : List Row} {ids : List Nat} {ρ : Nat → Nat} : ∀ (cs : List DV), PassL rows ids ρ (List.map AV.d cs) (List.map AV.d cs)
  | [] => .nil
  | x :: cs => .cons (.same (.d x)) (passes_d cs)
theorem pass_d {rows : List Row} {ids : List Nat} {ρ : Nat → Nat} (x : DV) : Pass rows ids ρ (.d x) (.d x) := .same (.d x)
section
variable {X : Ctx} {T : Tab} {f : FuncId} {k k' : List Item} {Q : Frame → Frame → Conf → Prop} {st st' : St}
theorem ak_nilS (S : List Nat) (i : Nat) (kk : Nat) (ty : TypeId) (g : Nat → List DV) (e : st.tm.lookup i = some (.d (.v (.slice none 0 0))))
    (ht : St.only S ⟨st.nt, (i, .own st.rows.length kk 0 0) :: st.tm, st.rows ++ [.flat false kk ty 0 g]⟩ = st') (h : AK X f k Q st') : AK X f k Q st := by
  subst ht
  exact ak_nil i kk ty g _ e rfl (ak_only S h)
theorem ak_sealS (S : List Nat) (i : Nat) {av : AV} {y : DV} (e : st.tm.lookup i = some av) (hs : Seals st.rows av y) (he : St.only S { st with tm := (i, .d y) :: st.tm } = st') (h : AK X f k Q st') : AK X f k Q st := by
  subst he
  exact ak_seal i e hs rfl (ak_only S h)
end

/-! ### Writing into a row -/
theorem vec_set {α : Type} {enc : α → List DV} {z x : α} {xs : List α} {i : Nat} (h : i < xs.length) : vec enc z (xs.set i x) i = enc x := by
  simp [vec, h]
theorem vec_set_ne {α : Type} {enc : α → List DV} {z x : α} {xs : List α} {i : Nat} : ∀ j, j < xs.length → j ≠ i → vec enc z (xs.set i x) j = vec enc z xs j := by
  intro j hj hne
  simp [vec, List.getElem?_set, Ne.symm hne]

section
variable {X : Ctx} {T : Tab} {f : FuncId} {k k' : List Item} {Q : Frame → Frame → Conf → Prop} {st st' : St}

theorem VRs.append {w : World} {ok : Bool → Nat → Prop} : ∀ {xs ys : List DV} {vs us : List Value}, VRs w ok xs vs → VRs w ok ys us → VRs w ok (xs ++ ys) (vs ++ us)
  | _, _, _, _, .nil, k => k
  | _, _, _, _, .cons h1 h hs, k => .cons h1 h (VRs.append hs k)

def stAt (T : Tab) (st : St) (k : List Item) : Option (Nat × Nat × Nat × Nat × Nat × List DV × List Item) :=
  match topOp st k with
  | some (o, k') =>
    match o.op with
    | .store t x y =>
      match T.info.lookup t, valOf st.tm x, valOf st.tm y with
      | some (s, _, _), some (.ptr id kk i off), some a =>
        match allD (cellsOf a) with
        | some ds => bif Nat.beq ds.length s && Nat.ble (off + s) kk && !isTup a && o.dst.isNone then some (id, kk, i, off, s, ds, k') else none
        | none => none
      | _, _, _ => none
    | _ => none
  | none => none

theorem ak_st0 (hT : TabOk X.P T) {id kk i off s n : Nat} {ty : TypeId} {ds : List DV} {g : Nat → List DV} (g' : Nat → List DV) (e : stAt T st k = some (id, kk, i, off, s, ds, k')) (hr : st.rows[id]? = some (.flat false kk ty n g)) (h1 : i < n)
    (hg : g' i = (g i).take off ++ ds ++ (g i).drop (off + s)) (hg2 : ∀ j, j < n → j ≠ i → g' j = g j) (hs : st' = { st with rows := st.rows.set id (.flat false kk ty n g') }) (h : AK X f k' Q st') : AK X f k Q st := by
  subst hs
  unfold stAt at e
  split at e
  · rename_i o k3 htop
    split at e
    · rename_i t x y hop
      split at e
      · rename_i s0 by' z id0 kk0 i0 off0 a hi hx hy
        split at e
        · rename_i ds0 hds
          cases hb : (Nat.beq ds0.length s0 && Nat.ble (off0 + s0) kk0 && !isTup a && o.dst.isNone) with
          | false => rw [hb] at e; cases e
          | true =>
            rw [hb] at e
            simp only [cond_true, Option.some.injEq, Prod.mk.injEq] at e
            obtain ⟨rfl, rfl, rfl, rfl, rfl, rfl, rfl⟩ := e
            simp only [Bool.and_eq_true, Bool.not_eq_true', Option.isNone_iff_eq_none] at hb
            obtain ⟨⟨⟨b1, b2⟩, b3⟩, b4⟩ := hb
            have b1 := Nat.eq_of_beq_eq_true b1
            have b2 := Nat.le_of_ble_eq_true b2
            refine ak_top_skip htop b4 h fun a' C hC => ?_
            obtain ⟨b, hμ, hu⟩ := (hC.val _ _ hx).ptr_inv
            have hrow : C.rows[id0]? = some (.flat false kk0 ty n g) := by rw [hC.rows]; exact hr
            obtain ⟨cs, vs, r1, r2, r3, r4, r5⟩ := hC.rel.rel id0 _ _ hμ hrow
            have hv := cellsOf_rel (hC.val _ _ hy) (isTup_ne b3)
            rw [allD_map hds] at hv
            have hv := hv.toD
            obtain ⟨v, hv0⟩ : ∃ v, a'.eval y = v := ⟨_, rfl⟩
            rw [hv0] at hv
            have hvl : v.cells.toList.length = s0 := by rw [← hv.length, b1]
            have hik : i0 * kk0 + kk0 ≤ n * kk0 := by rw [← Nat.succ_mul]; exact Nat.mul_le_mul_right kk0 h1
            have hst := run_storeCells_at X.P b (i0 * kk0 + off0) ty v.cells.toList 0 cs C.w r1 (by omega) hv.one
            let us : Array Value := (cs.toList.take (i0 * kk0 + off0 + 0) ++ v.cells.toList ++ cs.toList.drop (i0 * kk0 + off0 + 0 + v.cells.toList.length)).toArray
            have hus : us.size = cs.size := by
              simp only [us, List.size_toArray, List.length_append, List.length_take, List.length_drop, Array.length_toList, hvl]
              omega
            have tu := setRow_turns (r' := .flat false kk0 ty n g') hC.rel hμ hrow rfl r1 hus
            have ev := Ev.turn hC.rel tu
            have hcell : ∀ q, us[q]? = if q < i0 * kk0 + off0 then cs[q]? else if q < i0 * kk0 + off0 + s0 then v.cells.toList[q - (i0 * kk0 + off0)]? else cs[q]? := by
              intro q
              simp only [us, List.getElem?_toArray, Nat.add_zero]
              have hl1 : (cs.toList.take (i0 * kk0 + off0)).length = i0 * kk0 + off0 := by rw [List.length_take, Array.length_toList]; omega
              rw [List.getElem?_append, List.length_append, hl1, hvl]
              split
              · rename_i hq
                rw [List.getElem?_append, hl1]
                split
                · rename_i hq2
                  rw [List.getElem?_take_of_lt hq2]
                  simp
                · rfl
              · rename_i hq
                rw [if_neg (by omega)]
                rw [List.getElem?_drop, show i0 * kk0 + off0 + s0 + (q - (i0 * kk0 + off0 + s0)) = q from by omega]
                simp
            have hrel : HRel X (C.turn id0 (.flat false kk0 ty n g') (C.w.setRow b us)) := by
              refine HRel.turn hC.rel tu (.inl (by simp)) ⟨us, fun j => if j = i0 then (vs i0).take off0 ++ v.cells.toList ++ (vs i0).drop (off0 + s0) else vs j, by simpa using setRow_heap _ _ _ _ _ _ r1, by rw [hus]; exact r2, ?_, ?_, ?_⟩
              · intro j hj
                by_cases e : j = i0
                · subst e
                  simp only [if_true, List.length_append, List.length_take, List.length_drop, r3 j hj, hvl]
                  omega
                · simp only [if_neg e]; exact r3 j hj
              · intro j hj
                by_cases e : j = i0
                · subst e
                  simp only [if_true]
                  rw [hg]
                  exact (((r4 j hj).take off0).append hv |>.append ((r4 j hj).drop (off0 + s0))).mono ev.ok ev.same
                · simp only [if_neg e]
                  rw [hg2 j hj e]
                  exact (r4 j hj).mono ev.ok ev.same
              · intro j q w hj hw
                rw [hcell]
                by_cases e : j = i0
                · subst e
                  simp only [if_true] at hw
                  have hl1 : ((vs j).take off0).length = off0 := by rw [List.length_take, r3 j hj]; omega
                  rw [List.getElem?_append, List.length_append, hl1, hvl] at hw
                  split at hw
                  · rename_i hq
                    rw [List.getElem?_append, hl1] at hw
                    split at hw
                    · rename_i hq2
                      rw [List.getElem?_take_of_lt hq2] at hw
                      rw [if_pos (by omega)]
                      exact r5 j q w hj hw
                    · rename_i hq2
                      rw [if_neg (by omega), if_pos (by omega), show j * kk0 + q - (j * kk0 + off0) = q - off0 from by omega]
                      exact hw
                  · rename_i hq
                    rw [if_neg (by omega), if_neg (by omega)]
                    rw [List.getElem?_drop, show off0 + s0 + (q - (off0 + s0)) = q from by omega] at hw
                    exact r5 j q w hj hw
                · simp only [if_neg e] at hw
                  have hq : q < kk0 := by rw [← r3 j hj]; exact (List.getElem?_eq_some_iff.1 hw).1
                  have := r5 j q w hj hw
                  rcases Nat.lt_or_gt_of_ne e with h3 | h3
                  · have : j * kk0 + kk0 ≤ i0 * kk0 := by rw [← Nat.succ_mul]; exact Nat.mul_le_mul_right kk0 h3
                    rw [if_pos (by omega)]
                    exact r5 j q w hj hw
                  · have : i0 * kk0 + kk0 ≤ j * kk0 := by rw [← Nat.succ_mul]; exact Nat.mul_le_mul_right kk0 h3
                    rw [if_neg (by omega), if_neg (by omega)]
                    exact r5 j q w hj hw
            refine ⟨C.turn id0 (.flat false kk0 ty n g') (C.w.setRow b us), ?_, ?_⟩
            · have hs := hT.size hi (w := C.w)
              have h1 : (Instr.storeAt t (a'.eval x) (a'.eval y)).run X.P C.w = .ok () (C.w.setRow b us) := by
                rw [hu, hv0]
                simp only [Instr.storeAt, Instr.sureAddr, storeVar, Sem.run_bind, Sem.run_pure, Result.andThen_ok, hs]
                rw [if_neg (by simp at hvl; simp [hvl])]
                exact hst
              simp only [execOp, hop]
              rw [Sem.run_bind, h1]
              rfl
            · have := hC.moved ev hrel
              simpa [Conf.turn, hC.rows] using this
        · cases e
      · cases e
    · cases e
  · cases e
theorem ak_st (hT : TabOk X.P T) (S : List Nat) {id kk i off s n : Nat} {ty : TypeId} {ds : List DV} {g : Nat → List DV} (g' : Nat → List DV) (e : stAt T st k = some (id, kk, i, off, s, ds, k')) (hr : st.rows[id]? = some (.flat false kk ty n g)) (h1 : i < n)
    (hg : g' i = (g i).take off ++ ds ++ (g i).drop (off + s)) (hg2 : ∀ j, j < n → j ≠ i → g' j = g j) (hs : St.only S { st with rows := st.rows.set id (.flat false kk ty n g') } = st') (h : AK X f k' Q st') : AK X f k Q st := by
  subst hs
  exact ak_st0 hT g' e hr h1 hg hg2 rfl (ak_only S h)

theorem ak_callP {X : Ctx} {P : Program} {f g : FuncId} {k k' : List Item} {Q : Frame → Frame → Conf → Prop} {st st' : St} {avs args : List AV} {dst : Option Tmp} (S ids : List Nat) {rowsIn rowsOut : List Row} {ret : AV}
    (hP : X.P = P) (he : Enters P g) (hs : Says P g rowsIn args rowsOut ret) (e : callAt st k = some (g, avs, dst, k')) (hh : Hands st.rows ids rowsIn) (hp : PassL st.rows ids (moveTo ids st.rows.length) avs args)
    (hput : (St.put { st with rows := afterCall st.rows ids rowsOut } dst (renA (moveTo ids st.rows.length) ret)).map (St.only S) = some st') (h : AK X f k' Q st') : AK X f k Q st := by
  subst hP
  exact ak_callS S ids he hs e hh hp hput h

theorem ak_callD {X : Ctx} {P : Program} {f g : FuncId} {k k' : List Item} {Q : Frame → Frame → Conf → Prop} {st st' : St} {avs args : List AV} {dst : Option Tmp} {ret : AV}
    (hP : X.P = P) (he : Enters P g) (hs : Says P g [] args [] ret) (e : callAt st k = some (g, avs, dst, k')) (hp : PassL st.rows [] (moveTo [] st.rows.length) avs args)
    (hput : St.put { st with rows := afterCall st.rows [] [] } dst (renA (moveTo [] st.rows.length) ret) = some st') (h : AK X f k' Q st') : AK X f k Q st := by
  subst hP
  exact ak_call [] e he (hands_none _) hp hs hput h

theorem ak_appendL {α : Type} (hT : TabOk X.P T) {id kk by' : Nat} {t e : TypeId} {z : List Value} {dst : Option Tmp} {x : AV} (enc : α → List DV) (d : α) (xs ys : List α) (S : List Nat)
    (e1 : appAt st k = some (id, kk, xs.length, x, t, dst, k')) (hr : st.rows[id]? = some (.flat false kk e xs.length (vec enc d xs))) (src : SrcOf st.rows kk x ys.length (vec enc d ys))
    (ht : T.slices.lookup t = some e) (hi : T.info.lookup e = some (kk, by', z)) (hz : Nat.beq z.length kk = true) (hk : Nat.blt 0 kk = true) (hb : (xs.length + ys.length) * by' ≤ 140737488355328) (hlim : xs.length + ys.length ≤ 9223372036854775807)
    (hput : (St.put { st with rows := st.rows.set id .gone ++ [.flat false kk e (xs ++ ys).length (vec enc d (xs ++ ys))] } dst (.own st.rows.length kk 0 (xs ++ ys).length)).map (St.only S) = some st') (h : AK X f k' Q st') : AK X f k Q st := by
  obtain ⟨s0, h1, rfl⟩ := Option.map_eq_some_iff.1 hput
  exact ak_append hT (vec enc d (xs ++ ys)) e1 hr src ht hi hz hk (by simp) hb hlim vec_append_left vec_append_right h1 (ak_only S h)
end
end Go.Sy
