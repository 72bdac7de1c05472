/- The machine's steps over abstract states. -/
import Derived.Test.YtboaahlhgekbbaaSyE
set_option linter.unusedVariables false
set_option linter.unusedSimpArgs false
namespace Go.Sy

def St.put (st : St) (dst : Option Tmp) (av : AV) : Option St :=
  match dst with
  | none => some st
  | some d => bif Nat.blt d st.nt then some { st with tm := (d, av) :: st.tm } else none

def St.only (S : List Nat) (st : St) : St := { st with tm := S.filterMap fun i => (st.tm.lookup i).map fun av => (i, av) }

/-- Is the operation asked for? none: it can't be told. -/
def guardOf (tm : List (Nat × AV)) (ops : Array Oper) (o : Oper) : Option Bool :=
  match o.guard with
  | none => some true
  | some (j, want) =>
    match ops[j]? with
    | some oj =>
      match oj.dst with
      | some t =>
        match tm.lookup t with
        | some (.d (.v (.bool b))) => some (b == want)
        | some (.tup []) => some false
        | _ => none
      | none => none
    | none => none

def evalOp (T : Tab) (o : Oper) (st : St) : Option St :=
  match evalPure T (valOf st.tm) o.op with
  | some av => st.put o.dst av
  | none =>
    match evalMem T (valOf st.tm) st.rows o.op with
    | some (some av, rows) => St.put { st with rows := rows } o.dst av
    | some (none, rows) => if o.dst.isNone then some { st with rows := rows } else none
    | none => none

def sstep (T : Tab) : List Item → St → Option (List Item × St)
  | .code .skip :: k, st => some (k, st)
  | .code (.seq a b) :: k, st => some (.code a :: .code b :: k, st)
  | .code (.block id c) :: k, st => some (.code c :: .inBlock id :: k, st)
  | .inBlock _ :: k, st => some (k, st)
  | .code (.label _) :: k, st => some (k, st)
  | .code (.scope c) :: k, st => some (.code c :: .inScope c :: k, st)
  | .inScope _ :: k, st => some (k, st)
  | .code (.loop c) :: k, st => some (.code c :: .inLoop c :: k, st)
  | .inLoop c :: k, st => some (.code c :: .inLoop c :: k, st)
  | .code (.cond c t e) :: k, st =>
    match valOf st.tm c with
    | some (.d (.v (.bool b))) => some (.code (match b with | true => t | false => e) :: k, st)
    | _ => none
  | .code (.exit id) :: k, st => (exitTo id k).map fun k' => (k', st)
  | .code (.region _ ops false) :: k, st => some (.inRegion ops (List.range ops.size) :: k, st)
  | .inRegion _ [] :: k, st => some (k, st)
  | .inRegion ops (i :: rest) :: k, st =>
    match ops[i]? with
    | some o =>
      match guardOf st.tm ops o with
      | some true => (evalOp T o st).map fun st' => (.inRegion ops rest :: k, st')
      | some false => (st.put o.dst (.tup [])).map fun st' => (.inRegion ops rest :: k, st')
      | none => none
    | none => none
  | _, _ => none

def adv (T : Tab) : Nat → List Item → St → List Item × St
  | 0, k, st => (k, st)
  | n + 1, k, st =>
    match sstep T k st with
    | some (k', st') => adv T n k' st'
    | none => (k, st)

def stackAt : Code → List Nat → List Item → List Item
  | .seq a b, 0 :: p, k => stackAt a p (.code b :: k)
  | .seq _ b, 1 :: p, k => stackAt b p k
  | .block id c, 0 :: p, k => stackAt c p (.inBlock id :: k)
  | .loop c, 0 :: p, k => stackAt c p (.inLoop c :: k)
  | .scope c, 0 :: p, k => stackAt c p (.inScope c :: k)
  | .cond _ t _, 0 :: p, k => stackAt t p k
  | .cond _ _ e, 1 :: p, k => stackAt e p k
  | .region _ ops _, [i], k => .inRegion ops ((List.range ops.size).drop i) :: k
  | c, _, k => .code c :: k

/-! ### It is so -/
section
variable {X : Ctx} {T : Tab} {st : St} {a : Act} {C : Conf}

theorem Sim.val (h : Sim X st a C) : ∀ x av, valOf st.tm x = some av → AVR C.w (C.ok X) C.μ av (a.eval x) := fun _ _ e => valOf_rel h.tm e

theorem Sim.only (h : Sim X st a C) (S : List Nat) : Sim X (st.only S) a C := by
  refine ⟨h.rel, h.rows, h.defers, h.nt, fun i av e => h.tm i av ?_⟩
  have := lookup_mem e
  simp only [St.only, List.mem_filterMap] at this
  obtain ⟨j, _, e⟩ := this
  obtain ⟨y, h1, h2⟩ := Option.map_eq_some_iff.1 e
  injection h2 with h2 h3
  subst h2
  subst h3
  exact h1

theorem Sim.moved (h : Sim X st a C) {C' : Conf} (ev : Ev X C C') (hC : HRel X C') : Sim X { st with rows := C'.rows } a C' :=
  ⟨hC, rfl, h.defers, h.nt, fun i av e => let ⟨v, h1, h2⟩ := h.tm i av e; ⟨v, h1, ev.avr h2⟩⟩

theorem Sim.put (h : Sim X st a C) {dst : Option Tmp} {av : AV} {v : Value} {st' : St} (e : st.put dst av = some st') (hv : AVR C.w (C.ok X) C.μ av v) : Sim X st' (a.put dst v) C := by
  cases dst with
  | none =>
    injection e with e
    subst e
    exact h
  | some d =>
    simp only [St.put] at e
    cases hd : Nat.blt d st.nt with
    | false => rw [hd] at e; cases e
    | true =>
      rw [hd] at e
      injection e with e
      subst e
      have hd : d < st.nt := Nat.le_of_ble_eq_true hd
      refine ⟨h.rel, h.rows, h.defers, by simpa [Act.put] using h.nt, fun i bv e => ?_⟩
      simp only [List.lookup_cons] at e
      split at e
      · rename_i hi
        have hi : i = d := by simpa using hi
        subst hi
        injection e with e
        subst e
        exact ⟨v, by simp [Act.put, h.nt, hd], hv⟩
      · rename_i hi
        obtain ⟨u, h1, h2⟩ := h.tm i bv e
        have hi : d ≠ i := fun e => by subst e; simp at hi
        exact ⟨u, by simp [Act.put, Array.getElem?_setIfInBounds, hi, h1], h2⟩

theorem guard_wanted (h : Sim X st a C) {ops : Array Oper} {o : Oper} {b : Bool} (hg : guardOf st.tm ops o = some b) : Region.wanted o (yielded ops a.tmps) = b := by
  unfold guardOf at hg
  unfold Region.wanted
  split at hg
  · rename_i e
    rw [e]
    injection hg with hg
  · rename_i j want e
    rw [e]
    dsimp only
    split at hg
    · rename_i oj ho
      split at hg
      · rename_i t ht
        split at hg
        · rename_i b' hb
          injection hg with hg
          subst hg
          obtain ⟨v, h1, h2⟩ := h.tm t _ hb
          have := h2.v_inv
          subst this
          simp [yielded, ho, ht, h1]
        · rename_i hb
          injection hg with hg
          subst hg
          obtain ⟨v, h1, h2⟩ := h.tm t _ hb
          cases h2 with
          | tup h2 =>
            cases h2
            simp [yielded, ho, ht, h1]
        · cases hg
      · cases hg
    · cases hg

/-! ### Steps -/
variable {f : FuncId} {k : List Item} {Q : Frame → Frame → Conf → Prop}

theorem ak_step {k' : List Item} {st' : St} (h : AK X f k' Q st')
    (hs : ∀ a C, Sim X st a C → ∀ (b : Frame) (cs : List Frame), b.fn = f → ∃ a' C', Sim X st' a' C' ∧ Steps X.P (lone (b.atR a k) cs C.w) (lone (b.atR a' k') cs C'.w)) : AK X f k Q st := by
  intro a C hC b cs hb hk
  obtain ⟨a', C', h1, h2⟩ := hs a C hC b cs hb
  obtain ⟨C2, fr, q, h3, h4⟩ := h a' C' h1 b cs hb hk
  exact ⟨C2, fr, q, h2.trans h3, h4⟩

theorem ak_still {k' : List Item} (h : AK X f k' Q st) (hs : ∀ (a : Act) (w : World), ∀ (b : Frame) (cs : List Frame), step X.P (lone (b.atR a k) cs w) = .next (lone (b.atR a k') cs w)) : AK X f k Q st :=
  ak_step h fun a C hC b cs _ => ⟨a, C, hC, .one (hs a C.w b cs)⟩

theorem step_op_value {P : Program} {b : Frame} {a : Act} {k : List Item} {cs : List Frame} {w w' : World} {ops : Array Oper} {i : Nat} {rest : List Nat} {o : Oper} {v : Value} (ho : ops[i]? = some o) (hnd : ∀ c, o.op ≠ .defer c)
    (hw : Region.wanted o (yielded ops a.tmps) = true) (hr : (execOp a.eval o).run P w = .ok (.value v) w') :
    step P (lone (b.atR a (.inRegion ops (i :: rest) :: k)) cs w) = .next (lone (b.atR (a.put o.dst v) (.inRegion ops rest :: k)) cs w') := by
  have hg := stepGR_op (P := P) (b := b) (k := k) (cs := cs) (w := w) (rest := rest) ho hw
  rw [Oper.semAt_eq _ _ _ hnd] at hg
  have hfin : (b.atR a (.inRegion ops (i :: rest) :: k)).finish v = b.atR (a.put o.dst v) (.inRegion ops rest :: k) := by
    rw [Frame.finish_atR, ho]; rfl
  exact step_lone_go (by rw [hg, ← hfin]; simp [stepG.apply, hr])
theorem step_op_skipped {P : Program} {b : Frame} {a : Act} {k : List Item} {cs : List Frame} {w w' : World} {ops : Array Oper} {i : Nat} {rest : List Nat} {o : Oper} (ho : ops[i]? = some o) (hnd : ∀ c, o.op ≠ .defer c)
    (hw : Region.wanted o (yielded ops a.tmps) = true) (hr : (execOp a.eval o).run P w = .ok .skip w') :
    step P (lone (b.atR a (.inRegion ops (i :: rest) :: k)) cs w) = .next (lone (b.atR (a.put o.dst undef) (.inRegion ops rest :: k)) cs w') := by
  have hg := stepGR_op (P := P) (b := b) (k := k) (cs := cs) (w := w) (rest := rest) ho hw
  rw [Oper.semAt_eq _ _ _ hnd] at hg
  have hfin : (b.atR a (.inRegion ops (i :: rest) :: k)).finish undef = b.atR (a.put o.dst undef) (.inRegion ops rest :: k) := by
    rw [Frame.finish_atR, ho]; rfl
  exact step_lone_go (by rw [hg, ← hfin]; simp [stepG.apply, hr])

theorem evalOp_run (hT : TabOk X.P T) (h : Sim X st a C) {o : Oper} {st' : St} (e : evalOp T o st = some st') :
    ∃ v C', ((execOp a.eval o).run X.P C.w = .ok (.value v) C'.w ∨ ((execOp a.eval o).run X.P C.w = .ok .skip C'.w ∧ v = undef)) ∧ Sim X st' (a.put o.dst v) C' := by
  unfold evalOp at e
  split at e
  · rename_i av he
    obtain ⟨v, h1, h2⟩ := pure_run (P := X.P) (w := C.w) hT h.val he
    exact ⟨v, C, .inl h1, h.put e h2⟩
  · split at e
    · rename_i av rows he
      rw [← h.rows] at he
      obtain ⟨C', h1, h2, h3, v, h4, h5⟩ := mem_run hT h.rel h.val he
      subst h1
      exact ⟨v, C', .inl h4, (h.moved h3 h2).put e h5⟩
    · rename_i rows he
      rw [← h.rows] at he
      obtain ⟨C', h1, h2, h3, h4⟩ := mem_run hT h.rel h.val he
      split at e
      · rename_i hd
        injection e with e
        subst e
        subst h1
        have hd : o.dst = none := by simpa using hd
        refine ⟨undef, C', .inr ⟨h4, rfl⟩, ?_⟩
        rw [hd]
        exact h.moved h3 h2
      · cases e
    · cases e

theorem stepR_scope {P : Program} {b : Frame} {a : Act} {k : List Item} {cs : List Frame} {w : World} {c : Code} : step P (lone (b.atR a (.code (.scope c) :: k)) cs w) = .next (lone (b.atR a (.code c :: .inScope c :: k)) cs w) :=
  step_lone_go (by rfl)
theorem stepR_inScope {P : Program} {b : Frame} {a : Act} {k : List Item} {cs : List Frame} {w : World} {c : Code} : step P (lone (b.atR a (.inScope c :: k)) cs w) = .next (lone (b.atR a k) cs w) :=
  step_lone_go (by rfl)
theorem sstep_sound (hT : TabOk X.P T) {k' : List Item} {st' : St} (e : sstep T k st = some (k', st')) (h : AK X f k' Q st') : AK X f k Q st := by
  unfold sstep at e
  split at e
  · injection e with e; injection e with e1 e2; subst e1; subst e2
    exact ak_still h fun _ _ _ _ => stepR_skip
  · injection e with e; injection e with e1 e2; subst e1; subst e2
    exact ak_still h fun _ _ _ _ => stepR_seq
  · injection e with e; injection e with e1 e2; subst e1; subst e2
    exact ak_still h fun _ _ _ _ => stepR_block
  · injection e with e; injection e with e1 e2; subst e1; subst e2
    exact ak_still h fun _ _ _ _ => stepR_inBlock
  · injection e with e; injection e with e1 e2; subst e1; subst e2
    exact ak_still h fun _ _ _ _ => stepR_label
  · injection e with e; injection e with e1 e2; subst e1; subst e2
    exact ak_still h fun _ _ _ _ => stepR_scope
  · injection e with e; injection e with e1 e2; subst e1; subst e2
    exact ak_still h fun _ _ _ _ => stepR_inScope
  · injection e with e; injection e with e1 e2; subst e1; subst e2
    exact ak_still h fun _ _ _ _ => stepR_loop
  · injection e with e; injection e with e1 e2; subst e1; subst e2
    exact ak_still h fun _ _ _ _ => stepR_inLoop
  · split at e
    · rename_i b hb
      injection e with e; injection e with e1 e2; subst e1; subst e2
      refine ak_step h fun a C hC b' cs _ => ⟨a, C, hC, .one ?_⟩
      have := (hC.val _ _ hb).v_inv
      rw [stepR_cond this]
      cases b <;> rfl
    · cases e
  · obtain ⟨k2, h1, h2⟩ := Option.map_eq_some_iff.1 e
    injection h2 with e1 e2; subst e1; subst e2
    exact ak_still h fun _ _ _ _ => stepR_exit h1
  · injection e with e; injection e with e1 e2; subst e1; subst e2
    exact ak_still h fun _ _ _ _ => stepR_region
  · injection e with e; injection e with e1 e2; subst e1; subst e2
    exact ak_still h fun _ _ _ _ => stepR_region_end
  · split at e
    · rename_i o ho
      split at e
      · rename_i hg
        obtain ⟨st2, h1, h2⟩ := Option.map_eq_some_iff.1 e
        injection h2 with e1 e2; subst e1; subst e2
        refine ak_step h fun a C hC b cs _ => ?_
        obtain ⟨v, C', hr, hs⟩ := evalOp_run hT hC h1
        have hnd : ∀ c, o.op ≠ .defer c := by intro c hc; simp [evalOp, evalPure, evalMem, hc] at h1
        refine ⟨_, C', hs, .one ?_⟩
        rcases hr with hr | ⟨hr, rfl⟩
        · exact step_op_value ho hnd (guard_wanted hC hg) hr
        · exact step_op_skipped ho hnd (guard_wanted hC hg) hr
      · rename_i hg
        obtain ⟨st2, h1, h2⟩ := Option.map_eq_some_iff.1 e
        injection h2 with e1 e2; subst e1; subst e2
        refine ak_step h fun a C hC b cs _ => ⟨_, C, hC.put (v := undef) h1 (.tup .nil), .one ?_⟩
        have := stepR_op_skip (P := X.P) (b := b) (a := a) (k := ‹List Item›) (cs := cs) (w := C.w) (ops := ‹Array Oper›) (i := ‹Nat›) (rest := ‹List Nat›) (by simp [ho, guard_wanted hC hg])
        simpa [ho] using this
      · cases e
    · cases e
  · cases e

theorem adv_sound (hT : TabOk X.P T) : ∀ (n : Nat) {k : List Item} {st : St}, AK X f (adv T n k st).1 Q (adv T n k st).2 → AK X f k Q st
  | 0, _, _, h => h
  | n + 1, k, st, h => by
    unfold adv at h
    split at h
    · rename_i k' st' e
      exact sstep_sound hT e (adv_sound hT n h)
    · exact h

theorem ak_only (S : List Nat) (h : AK X f k Q (st.only S)) : AK X f k Q st := fun a C hC => h a C (hC.only S)

/-- n steps from one place to another. -/
theorem go (hT : TabOk X.P T) (n : Nat) (S : List Nat) {k' : List Item} {st' : St} (e : (fun r : List Item × St => (r.1, r.2.only S)) (adv T n k st) = (k', st')) (h : AK X f k' Q st') : AK X f k Q st := by
  refine adv_sound hT n (ak_only S ?_)
  injection e with e1 e2
  rw [e1, e2]
  exact h
end
end Go.Sy
