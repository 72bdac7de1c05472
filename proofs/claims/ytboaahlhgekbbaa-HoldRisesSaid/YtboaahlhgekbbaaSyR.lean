/- From a contract to a row: arguments read as data, and the call's end. -/
import Derived.Test.YtboaahlhgekbbaaSyN
import Derived.ChangeArms
import Derived.Deep.Slices
import Derived.WideShapes
set_option linter.unusedVariables false
set_option linter.unusedSimpArgs false
namespace Go.Sy
open Go.Deep Go.WideShapes Go.RowKit

def okW (w : World) (t : Bool) (b : Nat) : Prop := b < w.heap.size

/-- Data of type t are values of α. -/
def RD (P : Program) (t : TypeId) {α : Type} (e : α → List DV) (wf : α → Prop) : Prop :=
  ∀ (H : Type) (enc : TypeId × Value → H) (w : World) (spare : Nat → Bool) (fuel : Nat) (cs : List Value) (x : DataW H × List MemPlace), DataW.trod enc P w 0 spare true fuel t cs = some x → ∃ a : α, VRs w (okW w) (e a) cs ∧ wf a

section
variable {P : Program} {t : TypeId}

theorem trod_int {H : Type} {enc : TypeId × Value → H} {w : World} {spare : Nat → Bool} {fuel : Nat} {cs : List Value} {x : DataW H × List MemPlace} {k : IntKind} (hu : P.underlying t = some (.int k)) (h : DataW.trod enc P w 0 spare true fuel t cs = some x) :
    ∃ n, cs = [.int k n] ∧ (Lit.int k n).wf = true := by
  cases fuel with
  | zero => simp [DataW.trod] at h
  | succ m =>
    cases cs with
    | nil => simp [DataW.trod, hu] at h
    | cons v tl =>
      cases tl with
      | cons u tl => simp [DataW.trod, hu] at h
      | nil =>
        cases v <;> simp [DataW.trod, hu] at h
        rename_i k' n
        obtain ⟨⟨rfl, hw⟩, _⟩ := h
        exact ⟨_, rfl, hw⟩

theorem rd_int {k : IntKind} (hu : P.underlying t = some (.int k)) : RD P t (eI k) (fun n => (Lit.int k n).wf = true) := by
  intro H enc w spare fuel cs x h
  obtain ⟨n, rfl, hw⟩ := trod_int hu h
  exact ⟨n, .cons rfl (.v rfl) .nil, hw⟩

theorem rd_bool (hu : P.underlying t = some .bool) : RD P t eB (fun _ => True) := by
  intro H enc w spare fuel cs x h
  cases fuel with
  | zero => simp [DataW.trod] at h
  | succ m =>
    cases cs with
    | nil => simp [DataW.trod, hu] at h
    | cons v tl =>
      cases tl with
      | cons u tl => simp [DataW.trod, hu] at h
      | nil =>
        cases v <;> simp [DataW.trod, hu] at h
        exact ⟨_, .cons rfl (.v rfl) .nil, trivial⟩

theorem rd_string (hu : P.underlying t = some .string) : RD P t eS (fun s => s.size ≤ maxLen) := by
  intro H enc w spare fuel cs x h
  cases fuel with
  | zero => simp [DataW.trod] at h
  | succ m =>
    cases cs with
    | nil => simp [DataW.trod, hu] at h
    | cons v tl =>
      cases tl with
      | cons u tl => simp [DataW.trod, hu] at h
      | nil =>
        cases v <;> simp [DataW.trod, hu] at h
        exact ⟨_, .cons rfl (.v rfl) .nil, h.1⟩

theorem rd_slice {α : Type} {e : TypeId} {k : Nat} {enc : α → List DV} {wf : α → Prop} (z : α) (hu : P.underlying t = some (.slice e)) (hk : P.cellsOf e = k) (hk0 : 0 < k) (he : RD P e enc wf) :
    RD P t (eL enc z) (fun xs => xs.length ≤ maxLen ∧ ∀ x ∈ xs, wf x) := by
  intro H enc' w spare fuel cs x h
  rcases open_slice hu h with ⟨rfl, _⟩ | ⟨a, len, cap, m, n, D, Pl, rfl, _, hl, hm, hmm, _, hel⟩
  · exact ⟨[], .cons rfl .sl0 .nil, by simp, by simp⟩
  · have hle : len ≤ m := by rw [hmm]; split <;> omega
    have hel2 : ∀ i, i < len → ∃ (cs : List Value) (a' : α), cs.length = k ∧ (∀ j v, cs[j]? = some v → w.cell? (a.add (i * k + j)) = some v) ∧ VRs w (okW w) (enc a') cs ∧ wf a' := by
      intro i hi
      obtain ⟨cs', h1, h2⟩ := hel i (by omega)
      obtain ⟨a', h3, h4⟩ := he _ _ _ _ _ _ _ h2
      refine ⟨cs', a', ?_, ?_, h3, h4⟩
      · unfold World.cells? at h1
        rw [if_pos (Nat.zero_le _)] at h1
        rw [← hk]
        have := mapM_some_length h1
        simpa using this
      · intro j v hj
        unfold World.cells? at h1
        rw [if_pos (Nat.zero_le _)] at h1
        have hj' : j < P.cellsOf e := by
          have := mapM_some_length h1
          have h5 := (List.getElem?_eq_some_iff.1 hj).1
          simp at this
          omega
        have := mapM_some_get h1 j j (by simp [hj'])
        rw [hj, hk] at this
        rw [← add_add]
        exact this
    rcases Nat.eq_zero_or_pos len with h0 | h0
    · subst h0
      exact ⟨[], .cons rfl .sl0 .nil, by simp, by simp⟩
    · obtain ⟨b, o, sp⟩ := a
      have hsp : sp = none ∧ b < w.heap.size := by
        obtain ⟨cs0, a0, q1, q2, q3, q4⟩ := hel2 0 h0
        have hc : ∃ v, cs0[0]? = some v := ⟨cs0[0]'(by omega), List.getElem?_eq_getElem (by omega)⟩
        obtain ⟨v, hv⟩ := hc
        have := q2 0 v hv
        have e0 : (⟨b, o, sp⟩ : Addr).add (0 * k + 0) = ⟨b, o, sp⟩ := by simp [Addr.add]
        rw [e0] at this
        unfold World.cell? at this
        split at this
        · rename_i hh
          refine ⟨?_, ?_⟩
          · cases sp with
            | none => rfl
            | some _ => simp at this
          · exact (Array.getElem?_eq_some_iff.1 hh).1
        · cases this
      obtain ⟨rfl, hb⟩ := hsp
      have choose : ∃ (f : Nat → List Value) (g : Nat → α), ∀ i, i < len → (f i).length = k ∧ (∀ j v, (f i)[j]? = some v → w.cell? ⟨b, o + i * k + j, none⟩ = some v) ∧ VRs w (okW w) (enc (g i)) (f i) ∧ wf (g i) := by
        refine ⟨fun i => if hi : i < len then Classical.choose (hel2 i hi) else [], fun i => if hi : i < len then Classical.choose (Classical.choose_spec (hel2 i hi)) else z, fun i hi => ?_⟩
        simp only [dif_pos hi]
        obtain ⟨q1, q2, q3, q4⟩ := Classical.choose_spec (Classical.choose_spec (hel2 i hi))
        refine ⟨q1, fun j v hj => ?_, q3, q4⟩
        have := q2 j v hj
        rw [add_none] at this
        rw [Nat.add_assoc]
        exact this
      obtain ⟨f, g, hfg⟩ := choose
      let xs := (List.range len).map g
      have hxl : xs.length = len := by simp [xs]
      have hx : ∀ i, i < len → xs.getD i z = g i := by
        intro i hi
        simp [xs, hi]
      refine ⟨xs, .cons rfl ?_ .nil, by rw [hxl]; omega, fun y hy => ?_⟩
      · rw [hxl]
        exact .sl k f h0 hl hb (fun i hi => (hfg i hi).1) (fun i hi => by simp only [vec]; rw [hx i hi]; exact (hfg i hi).2.2.1) (fun i j v hi hj => (hfg i hi).2.1 j v hj)
      · obtain ⟨i, hi, rfl⟩ := List.mem_map.1 hy
        exact (hfg i (by simpa using hi)).2.2.2

/-! ### Structs -/
theorem VRs.app {w : World} {ok : Bool → Nat → Prop} : ∀ {xs ys : List DV} {vs us : List Value}, VRs w ok xs vs → VRs w ok ys us → VRs w ok (xs ++ ys) (vs ++ us)
  | _, _, _, _, .nil, k => k
  | _, _, _, _, .cons h1 h hs, k => .cons h1 h (VRs.app hs k)

/-- The fields of a struct, from the cell 'off' up to the cell 'till'. -/
def RF (P : Program) (fs : List Field) (off till : Nat) {α : Type} (e : α → List DV) (wf : α → Prop) : Prop :=
  off ≤ till ∧ ∀ (H : Type) (enc : TypeId × Value → H) (w : World) (spare : Nat → Bool) (fuel : Nat) (cs : List Value), cs.length = till →
    (∀ f ∈ fs, ∃ x : DataW H × List MemPlace, DataW.trod enc P w 0 spare true fuel f.type ((cs.drop f.offset).take (P.cellsOf f.type)) = some x) → ∃ a : α, VRs w (okW w) (e a) (cs.drop off) ∧ wf a

theorem rf_nil (till : Nat) : RF P [] till till (fun _ : Unit => []) (fun _ => True) :=
  ⟨Nat.le_refl _, fun _ _ w _ _ cs h _ => ⟨(), by rw [List.drop_of_length_le (by omega)]; exact .nil, trivial⟩⟩

theorem rf_cons {α β : Type} {f : Field} {fs : List Field} {off n till : Nat} {e : α → List DV} {wf : α → Prop} {e' : β → List DV} {wf' : β → Prop} (h : RD P f.type e wf) (ho : f.offset = off) (hn : P.cellsOf f.type = n) (hs : RF P fs (off + n) till e' wf') :
    RF P (f :: fs) off till (fun p : α × β => e p.1 ++ e' p.2) (fun p => wf p.1 ∧ wf' p.2) := by
  obtain ⟨hle, hs⟩ := hs
  refine ⟨by omega, fun H enc w spare fuel cs hl hx => ?_⟩
  obtain ⟨x, hx1⟩ := hx f (List.mem_cons_self ..)
  obtain ⟨a, a1, a2⟩ := h _ _ _ _ _ _ _ hx1
  obtain ⟨b, b1, b2⟩ := hs H enc w spare fuel cs hl (fun g hg => hx g (List.mem_cons_of_mem _ hg))
  refine ⟨(a, b), ?_, a2, b2⟩
  have : cs.drop off = (cs.drop off).take n ++ cs.drop (off + n) := by
    rw [← List.drop_drop, List.take_append_drop]
  rw [this]
  rw [ho, hn] at a1
  exact a1.app b1

theorem rd_struct {α β : Type} {fs : Array Field} {n : Nat} {e : β → List DV} {wf : β → Prop} {e' : α → List DV} {wf' : α → Prop} (hu : P.underlying t = some (.struct fs)) (hn : P.cellsOf t = n) (h : RF P fs.toList 0 n e wf)
    (f : β → α) (he : ∀ b, e b = e' (f b)) (hw : ∀ b, wf b → wf' (f b)) : RD P t e' wf' := by
  intro H enc w spare fuel cs x hx
  obtain ⟨xs, m, _, _, hl, hxl, hall⟩ := DataW.trod_struct hu hx
  obtain ⟨b, b1, b2⟩ := h.2 H enc w spare m cs (by rw [hl, hn]) (fun g hg => by
    obtain ⟨i, hi⟩ := List.mem_iff_getElem?.1 hg
    have := hall i g (by simpa using hi)
    have hlt : i < fs.size := by
      have := (List.getElem?_eq_some_iff.1 hi).1
      simpa using this
    exact ⟨xs[i]'(by omega), by rw [this, List.getElem?_eq_getElem (by omega)]⟩)
  exact ⟨f b, by rw [← he]; simpa using b1, hw b b2⟩
end

/-! ### The call of a law -/
theorem trod_av {P : Program} {α : Type} {t : TypeId} {e : α → List DV} {wf : α → Prop} (h : RD P t e wf) {H : Type} {enc : TypeId × Value → H} {w : World} {spare : Nat → Bool} {v : Value} {d : DataW H} {p : List MemPlace} (hd : DataW.Trod enc P w 0 spare true t v d p) :
    ∃ a : α, VRs w (okW w) (e a) v.cells.toList ∧ wf a := by
  obtain ⟨fuel, hf⟩ := hd
  exact h _ _ _ _ _ _ _ hf

theorem vr_one {w : World} {ok : Bool → Nat → Prop} {x : DV} {v : Value} (h : VRs w ok [x] [v]) : VR w ok x v := by
  cases h with
  | cons _ h _ => exact h

def lawCtx (P : Program) (W : World) : Ctx := { P := P, w0 := W, μ0 := [], okp := fun b => b < W.heap.size }

theorem law_calls {P : Program} {f : FuncId} {args : List AV} {b : Bool} (h : Says P f [] args [] (.d (.v (.bool b)))) {W : World} {vs : List Value} (ha : AVRl W (okW W) [] args vs) :
    Calls P f vs.toArray W fun e w' => e = .returned (.bool b) ∧ Below W.heap.size W w' := by
  have hrel : HRel (lawCtx P W) ⟨[], [], W⟩ := ⟨rfl, rfl, rfl, ⟨rfl, Nat.le_refl _⟩, Nat.le_refl _, fun _ _ _ => rfl, fun _ cs _ h => ⟨cs, h, rfl⟩, fun _ _ h => h, fun _ _ h => by simp at h, fun _ _ _ _ _ h => by simp at h, fun _ _ _ _ h => by simp at h, fun _ _ _ _ _ _ _ h => by simp at h, fun _ _ _ h => by simp at h⟩
  have hok : ∀ t b, okW W t b → (⟨[], [], W⟩ : Conf).ok (lawCtx P W) t b := fun t b hb => ⟨hb, by rintro ⟨_, _, _, h, _⟩; simp at h, fun _ => .inl hb⟩
  have := h (lawCtx P W) vs rfl (fun b hb => ⟨hb, by simp [Ctx.own0, lawCtx]⟩) hrel (by
    exact AVRl.mono hok (fun _ _ _ => rfl) (fun _ _ h => h) (fun _ cs _ h => ⟨cs, h, rfl⟩) ha)
  refine this.mono ?_
  rintro e w' ⟨v, μ', rfl, hd⟩
  have hv := hd.ret.v_inv
  subst hv
  refine ⟨rfl, hd.rel.os, hd.rel.tape, hd.rel.output.1, hd.rel.size, fun k hk => hd.rel.keep k hk (by simp [Ctx.own0, lawCtx])⟩
end Go.Sy
