/- A range over a function: the record of the loop, the rounds, and what lies about them. -/
import Derived.Test.YtboaahlhgekbbaaSyN
import Derived.RangeFuncIn
import Derived.RangeFuncRecord
set_option linter.unusedVariables false
set_option linter.unusedSimpArgs false
namespace Go.Sy

/-! ### A row under another id, all that named it naming the new one -/
def dupTo (i N j : Nat) : Nat := if j = N then i else j

theorem ak_dup {X : Ctx} {f : FuncId} {k : List Item} {Q : Frame → Frame → Conf → Prop} {st st' : St} (i : Nat) {r : Row} (hr : st.rows[i]? = some r) (hl : r.live = true)
    (e1 : st'.rows.map (renR (dupTo i st.rows.length)) = st.rows.set i .gone ++ [r]) (e2 : (st'.tm.map fun p => (p.1, renA (dupTo i st.rows.length) p.2)) = st.tm) (e3 : st'.nt = st.nt) (h : AK X f k Q st') : AK X f k Q st := by
  intro a C hC b cs hb hk
  have hrC : C.rows[i]? = some r := by rw [hC.rows]; exact hr
  obtain ⟨ob, hμ⟩ := hC.rel.muOf hrC
  have h1 := rel_renew hC.rel hμ hrC hl
  have ev := ev_renew hC.rel hμ hrC
  let C' : Conf := ⟨C.μ ++ [ob], st'.rows, C.w⟩
  have hlen : C.μ.length = st.rows.length := by rw [hC.rel.len, hC.rows]
  have hrows : st'.rows.map (renR (dupTo i st.rows.length)) = (C.renew i ob r).rows := by rw [e1]; simp [Conf.renew, hC.rows]
  have hat : ∀ {j : Nat} {s : Row}, st'.rows[j]? = some s → (C.renew i ob r).rows[j]? = some (renR (dupTo i st.rows.length) s) := by
    intro j s hs
    rw [← hrows, List.getElem?_map, hs]
    rfl
  have hρ : ∀ (j : Nat) x, (C.renew i ob r).μ[dupTo i st.rows.length j]? = some x → C'.μ[j]? = some x := by
    intro j x hx
    simp only [C', Conf.renew] at hx ⊢
    unfold dupTo at hx
    split at hx
    · rename_i hj
      subst hj
      rw [get_append_old hμ] at hx
      injection hx with hx
      subst hx
      rw [← hlen]
      simp
    · exact hx
  have hlive : ∀ {q : Nat}, C'.live q → (C.renew i ob r).live q := by
    rintro q ⟨j, m, s, a1, a2, a3, a4⟩
    exact ⟨j, m, _, a1, hat a2, by rw [renR_live]; exact a3, (renR_hasB _ _ _ _ _).2 a4⟩
  have hok : ∀ t q, (C.renew i ob r).ok X t q → C'.ok X t q := fun t q ⟨a1, a2, a3⟩ => ⟨a1, fun e => a2 (hlive e), a3⟩
  have hrel : HRel X C' := by
    refine ⟨?_, h1.os, h1.tape, h1.output, h1.size, h1.keep, h1.shape, h1.first, h1.place, ?_, ?_, ?_, ?_⟩
    · have := congrArg List.length hrows
      simp only [List.length_map] at this
      show (C.μ ++ [ob]).length = st'.rows.length
      rw [this]
      exact h1.len
    · intro p q c s u b1 b2 b3 b4 b5 b6
      exact h1.apart p q c _ _ b1 b2 (hat b3) (hat b4) (by rw [renR_live]; exact b5) (by rw [ne_eq, renR_gone]; exact b6)
    · intro p m c s b1 b2 b3
      exact h1.placeX p m c _ b1 (hat b2) (by rw [renR_ext]; exact b3)
    · intro p q m n c s u b1 b2 b3 b4 b5 b6
      have := h1.apartX p q m n c _ _ b1 b2 (hat b3) (hat b4) (by rw [renR_ext]; exact b5) (by rw [ne_eq, renR_gone]; exact b6)
      exact ⟨this.1, fun b7 => this.2 (by rw [renR_ext]; exact b7)⟩
    · intro j o s b1 b2
      exact (h1.rel j o _ b1 (hat b2)).unren hok hρ
  refine h a C' ⟨hrel, rfl, hC.defers, hC.nt.trans e3.symm, fun j av e => ?_⟩ b cs hb hk
  have := lookup_map (ρ := dupTo i st.rows.length) e
  rw [e2] at this
  obtain ⟨v, c1, c2⟩ := hC.tm j _ this
  exact ⟨v, c1, (ev.avr c2).unren hok hρ⟩

/-! ### A round -/
section
variable {X : Ctx} {C : Conf}

theorem putObj_turns (h : HRel X C) {id l : Nat} {r r' : Row} {lp : Loop} (o : Obj) (hμ : C.μ[id]? = some (some l)) (hr : C.rows[id]? = some r) (hl : r.live = true) (hh : C.w.heap[l]? = some (.loop lp)) (hx : ∀ w m, r.ext w m = [] := by intros; rfl) (hx' : ∀ w m, r'.ext w m = [] := by intros; rfl) : Turns X C id l r r' (C.w.putObj l o) :=
  ⟨hμ, hr, hl, rfl, rfl, ⟨rfl, Nat.le_refl _⟩, by simp [World.putObj], fun k hk => World.putObj_heap_other hk, fun cs ty hc => (by rw [hh] at hc; cases hc), hx, hx'⟩

theorem putObj_at {w : World} {l : Nat} {o o' : Obj} (h : w.heap[l]? = some o) : (w.putObj l o').heap[l]? = some o' := by
  obtain ⟨hlt, _⟩ := Array.getElem?_eq_some_iff.1 h
  simp [World.putObj, hlt]

/-- The record of a loop turns its state. -/
theorem loop_turn (h : HRel X C) {id l : Nat} {s s' : LoopState} {fn : FuncId} {nt : Nat} {is : List Nat} {xs : List AV} {ps : Array Tmp} {asg body : Code} (hr : C.rows[id]? = some (.loop l s fn nt is xs ps asg body)) :
    ∃ lp : Loop, C.w.heap[l]? = some (.loop lp) ∧ lp.state = s ∧ lp.pending = none ∧ HRel X (C.turn id (.loop l s' fn nt is xs ps asg body) (C.w.putObj l (.loop { lp with state := s' }))) ∧ Ev X C (C.turn id (.loop l s' fn nt is xs ps asg body) (C.w.putObj l (.loop { lp with state := s' }))) := by
  obtain ⟨ob, hμ⟩ := h.muOf hr
  have hrel := h.rel id ob _ hμ hr
  cases ob with
  | none => exact hrel.elim
  | some b =>
    obtain ⟨rfl, T, D, vs, h1, h2, h3, h4⟩ := hrel
    have tu := putObj_turns (r' := .loop b s' fn nt is xs ps asg body) h (.loop { state := s', pending := none, fn := fn, tmps := T, params := ps, assign := asg, body := body, defers := D }) hμ hr rfl h1
    have ev := Ev.turn h tu
    refine ⟨_, h1, rfl, rfl, HRel.turn h tu (.inl (by simp)) ⟨rfl, T, D, vs, putObj_at h1, h2, ?_, h4⟩, ev⟩
    exact AVRl.mono ev.ok ev.same ev.pre ev.shape h3

theorem ak_begin {f : FuncId} {k : List Item} {Q : Frame → Frame → Conf → Prop} {st st' : St} (id : Nat) {l : Nat} {fn : FuncId} {nt : Nat} {is : List Nat} {xs : List AV} {ps : Array Tmp} {asg body : Code} (hX : X.rnd = some l) (hr : st.rows[id]? = some (.loop l .ready fn nt is xs ps asg body))
    (hs : st' = { st with rows := st.rows.set id (.loop l .busy fn nt is xs ps asg body) }) (h : AK X f k Q st') : AK X f (.beginRound :: k) Q st := by
  subst hs
  intro a C hC b cs hb hk
  obtain ⟨lp, h1, h2, h3, h4, h5⟩ := loop_turn (s' := .busy) hC.rel (by rw [hC.rows]; exact hr)
  have hst := stepR_beginRound (P := X.P) (b := b) (a := a) (k := k) (cs := cs) (w := C.w) (hk.2.trans hX) (run_beginRound h1 h2)
  have hm := hC.moved h5 h4
  simp only [Conf.turn, hC.rows] at hm
  obtain ⟨C', fr, q, s1, s2⟩ := h a _ hm b cs hb hk
  exact ⟨C', fr, q, .head hst s1, s2⟩

/-- A round's end. -/
def RoundEnd (X : Ctx) (l : Nat) (rowsOut : List Row) (b fr : Frame) (C : Conf) : Prop :=
  ∃ a w2, fr = b.atR a [] ∧ (Instr.endRound l none).run X.P C.w = .ok (.bool true) w2 ∧ Done X ⟨C.μ, rowsOut, w2⟩ (.d (.v (.bool true))) (.bool true)

theorem ak_roundEnd {f : FuncId} {st : St} (id : Nat) {l : Nat} {fn : FuncId} {nt : Nat} {is : List Nat} {xs : List AV} {ps : Array Tmp} {asg body : Code} (hr : st.rows[id]? = some (.loop l .busy fn nt is xs ps asg body))
    {rowsOut : List Row} (hs : rowsOut = st.rows.set id (.loop l .ready fn nt is xs ps asg body)) (nr : ∀ r ∈ rowsOut, NR r) : AK X f [] (RoundEnd X l rowsOut) st := by
  subst hs
  intro a C hC b cs hb hk
  obtain ⟨lp, h1, h2, h3, h4, h5⟩ := loop_turn (s' := .ready) hC.rel (by rw [hC.rows]; exact hr)
  have hend := run_endRound (P := X.P) none h1
  have e : ({ lp with state := if (none : Option Code).isNone then LoopState.ready else .done, pending := (none : Option Code) } : Loop) = { lp with state := .ready } := by
    cases lp
    simp only at h3
    subst h3
    rfl
  rw [e] at hend
  simp only [Conf.turn, hC.rows] at h4
  refine ⟨C, b.atR a [], ⟨a, _, rfl, hend, h4, ?_, .d (.v rfl)⟩, .refl _ _, hb⟩
  intro j ob r e1 e2
  exact (h4.rel j ob r e1 e2).perm (fun _ h => ⟨rfl, h⟩) (nr r (List.mem_of_getElem? e2))

/-- What a round does, handed x: the rows from 'rowsIn' to 'rowsOut'; yield says 'go on'. -/
def RoundSays (P : Program) (l : Nat) (rowsIn : List Row) (x : AV) (rowsOut : List Row) : Prop :=
  ∀ (X : Ctx) (v : Value), X.P = P → X.Fits → HRel X ⟨X.μ0, rowsIn, X.w0⟩ → AVR X.w0 ((⟨X.μ0, rowsIn, X.w0⟩ : Conf).ok X) X.μ0 x v →
    ∃ fn tmps asg body, (Instr.yield l #[v]).run P X.w0 = .ok (.round l fn tmps asg body) X.w0 ∧ ∀ (c : Frame) (cs : List Frame), ∃ w' μ', Done X ⟨μ', rowsOut, w'⟩ (.d (.v (.bool true))) (.bool true) ∧
      Steps P (lone (Frame.round l fn tmps asg body .normal) (c :: cs) X.w0) (lone (c.finish (.bool true)) cs w')

def Ctx.round (X : Ctx) (l : Nat) : Ctx := { X with ds := [], rnd := some l }
theorem HRel.round {C : Conf} (l : Nat) (h : HRel X C) : HRel (X.round l) C := ⟨h.len, h.os, h.tape, h.output, h.size, h.keep, h.shape, h.first, h.place, h.apart, h.placeX, h.apartX, h.rel⟩
theorem HRel.unround {C : Conf} {l : Nat} (h : HRel (X.round l) C) : HRel X C := ⟨h.len, h.os, h.tape, h.output, h.size, h.keep, h.shape, h.first, h.place, h.apart, h.placeX, h.apartX, h.rel⟩

theorem zip_lookup : ∀ {is : List Nat} {xs : List AV} {i : Nat} {av : AV}, (is.zip xs).lookup i = some av → ∃ j : Nat, is[j]? = some i ∧ xs[j]? = some av
  | [], _, _, _, h => by simp at h
  | _ :: _, [], _, _, h => by simp at h
  | q :: is, y :: xs, i, av, h => by
    rw [List.zip_cons_cons, List.lookup_cons] at h
    split at h
    · rename_i e
      have e : i = q := by simpa using e
      subst e
      injection h with h
      subst h
      exact ⟨0, rfl, rfl⟩
    · obtain ⟨j, h1, h2⟩ := zip_lookup h
      exact ⟨j + 1, by simpa using h1, by simpa using h2⟩

theorem round_says {P : Program} {l : Nat} {fn : FuncId} {nt : Nat} {is : List Nat} {xs : List AV} {p : Tmp} {asg body : Code} {rest : List Row} {x : AV} {rowsOut : List Row} (hp : p < nt)
    (h : ∀ X : Ctx, X.P = P → X.μ0.length = (.loop l .ready fn nt is xs #[p] asg body :: rest).length → X.rnd = some l → AK X fn (.code asg :: .beginRound :: .code body :: []) (RoundEnd X l rowsOut) ⟨nt, (p, x) :: is.zip xs, .loop l .ready fn nt is xs #[p] asg body :: rest⟩) :
    RoundSays P l (.loop l .ready fn nt is xs #[p] asg body :: rest) x rowsOut := by
  intro X v hP hX hrel hx
  subst hP
  obtain ⟨ob, hμ⟩ := hrel.muOf (id := 0) rfl
  have h0 := hrel.rel 0 ob _ hμ rfl
  cases ob with
  | none => exact h0.elim
  | some b =>
    obtain ⟨rfl, T, D, vs, h1, h2, h3, h4⟩ := h0
    refine ⟨fn, _, asg, body, run_yield h1 rfl, fun c cs => ?_⟩
    have hT : ((#[p].zip #[v]).foldl (fun tmps (q : Tmp × Value) => tmps.setIfInBounds q.1 q.2) T) = T.setIfInBounds p v := by simp
    let a : Act := ⟨T.setIfInBounds p v, []⟩
    have hsim : Sim (X.round b) ⟨nt, (p, x) :: is.zip xs, .loop b .ready fn nt is xs #[p] asg body :: rest⟩ a ⟨X.μ0, .loop b .ready fn nt is xs #[p] asg body :: rest, X.w0⟩ := by
      refine ⟨hrel.round b, rfl, rfl, by simp [a, h2], fun i av e => ?_⟩
      simp only [List.lookup_cons] at e
      split at e
      · rename_i hi
        have hi : i = p := by simpa using hi
        subst hi
        injection e with e
        subst e
        exact ⟨v, by simp [a, h2, hp], hx⟩
      · rename_i hi
        obtain ⟨j, j1, j2⟩ := zip_lookup e
        obtain ⟨u, u1, u2⟩ := h3.at_ j2
        have hne : p ≠ i := fun e => by subst e; simp at hi
        exact ⟨u, by simp [a, Array.getElem?_setIfInBounds, hne, h4 j i u j1 u1], u2⟩
    obtain ⟨C', fr, ⟨a2, w2, rfl, q2, q3⟩, s1, s2⟩ := h (X.round b) rfl hrel.len rfl a _ hsim { (default : Frame) with fn := fn, kind := .normal, roundOf := some b } (c :: cs) rfl ⟨rfl, rfl⟩
    refine ⟨w2, C'.μ, ⟨q3.rel.unround, q3.rows, q3.ret⟩, ?_⟩
    have hend := stepR_round_end (P := X.P) (b := { (default : Frame) with fn := fn, kind := .normal, roundOf := some b }) (a := a2) (cs := cs) (w := C'.w) (c := c) rfl rfl q2
    have hfr : ∀ T2 : Array Value, T2 = T.setIfInBounds p v → Frame.round b fn T2 asg body .normal = ({ (default : Frame) with fn := fn, kind := .normal, roundOf := some b } : Frame).atR a [.code asg, .beginRound, .code body] := by
      rintro T2 rfl
      rfl
    rw [hfr _ (by simp)]
    exact s1.trans (.one hend)
end
end Go.Sy
