/- Results that lie in memory; a nil slice in a variable as an empty row. -/
import Derived.Test.YtboaahlhgekbbaaSyW
set_option linter.unusedVariables false
set_option linter.unusedSimpArgs false
namespace Go.Sy

section
variable {X : Ctx} {T : Tab} {f : FuncId} {k : List Item} {st : St} {a : Act} {C : Conf}

def retAV (T : Tab) (st : St) : ResultVar → Option AV
  | .tmp t => st.tm.lookup t
  | .cell p t => (st.tm.lookup p).bind fun av => match av with
    | .ptr id k i off => evalLoad T st.rows t (.ptr id k i off)
    | _ => none
def retOfM (T : Tab) (st : St) : List ResultVar → Option AV
  | [x] => retAV T st x
  | [x, y] => match retAV T st x, retAV T st y with
    | some a, some b => some (.tup [a, b])
    | _, _ => none
  | [x, y, z] => match retAV T st x, retAV T st y, retAV T st z with
    | some a, some b, some c => some (.tup [a, b, c])
    | _, _, _ => none
  | _ => none

def resSem (tmps : Array Value) : ResultVar → Sem Value
  | .tmp t => pure (tmps.getD t undef)
  | .cell a t => do loadVar t (← asAddr (tmps.getD a undef))

theorem retAV_run (hT : TabOk X.P T) (h : Sim X st a C) {x : ResultVar} {av : AV} (e : retAV T st x = some av) : ∃ v, (resSem a.tmps x).run X.P C.w = .ok v C.w ∧ AVR C.w (C.ok X) C.μ av v := by
  have get : ∀ {t : Nat} {x : AV}, st.tm.lookup t = some x → AVR C.w (C.ok X) C.μ x (a.tmps.getD t undef) := by
    intro t x ht
    obtain ⟨v, h1, h2⟩ := h.tm t x ht
    simpa [Array.getD_eq_getD_getElem?, h1] using h2
  cases x with
  | tmp t => exact ⟨_, rfl, get e⟩
  | cell p t =>
    simp only [retAV] at e
    obtain ⟨pv, hp, e⟩ := Option.bind_eq_some_iff.1 e
    split at e
    · rename_i id kk i off
      have hpv := get hp
      rw [← h.rows] at e
      obtain ⟨v, h1, h2⟩ := load_run hT h.rel hpv e
      refine ⟨v, ?_, h2⟩
      simp only [resSem]
      generalize a.tmps.getD p undef = u at hpv h1
      cases hpv with
      | ptr hμ =>
        simp only [Instr.loadAt, Instr.sureAddr] at h1
        simpa [asAddr] using h1
    · cases e

theorem results_eq (fn : Func) (tmps : Array Value) : results fn tmps = (do
    let vs ← fn.results.mapM (resSem tmps)
    pure (if h : vs.size = 1 then vs[0] else .tuple vs)) := by
  unfold results
  congr 1

theorem retOfM_run (hT : TabOk X.P T) (h : Sim X st a C) {fn : Func} {av : AV} (e : retOfM T st fn.results.toList = some av) :
    ∃ v, (results fn a.tmps).run X.P C.w = .ok v C.w ∧ AVR C.w (C.ok X) C.μ av v := by
  have hr : fn.results = fn.results.toList.toArray := by simp
  generalize fn.results.toList = l at e hr
  rw [results_eq, hr]
  unfold retOfM at e
  split at e
  · obtain ⟨v, h1, h2⟩ := retAV_run hT h e
    exact ⟨v, by simp [h1], h2⟩
  · split at e
    · rename_i x y p q hp hq
      injection e with e
      subst e
      obtain ⟨v, h1, h2⟩ := retAV_run hT h hp
      obtain ⟨u, h3, h4⟩ := retAV_run hT h hq
      exact ⟨_, by simp [h1, h3], .tup (.cons h2 (.cons h4 .nil))⟩
    · cases e
  · split at e
    · rename_i x y z p q r hp hq hz
      injection e with e
      subst e
      obtain ⟨v, h1, h2⟩ := retAV_run hT h hp
      obtain ⟨u, h3, h4⟩ := retAV_run hT h hq
      obtain ⟨s, h5, h6⟩ := retAV_run hT h hz
      exact ⟨_, by simp [h1, h3, h5], .tup (.cons h2 (.cons h4 (.cons h6 .nil)))⟩
    · cases e
  · cases e

theorem leaves_retM {fn : Func} {rowsOut : List Row} {ret av : AV} (hT : TabOk X.P T) (hf : X.P.funcs[f]? = some fn) (e : retOfM T st fn.results.toList = some av)
    (sel : List Nat) (hs : Sel st.rows (selTo sel st.rows.length) sel rowsOut) (hn : sel.Nodup) (h0 : sel.take X.μ0.length = List.range X.μ0.length) (hret : av = renA (selTo sel st.rows.length) ret)
    (nr : ∀ r ∈ rowsOut, NR r) (na : NA ret)
    (hstep : ∀ (a : Act) (C : Conf), a.defers = X.ds → ∀ (b : Frame) (cs : List Frame), b.fn = f → (b.kind = .normal ∧ b.roundOf = X.rnd) → ∃ fr, Steps X.P (lone (b.atR a k) cs C.w) (lone fr cs C.w) ∧ fr.fn = f ∧ fr.mode = .returning ∧ fr.defers = [] ∧ fr.kind = .normal ∧ fr.tmps = a.tmps) :
    AK X f k (Back X rowsOut ret) st := by
  intro a C hC b cs hb hk
  obtain ⟨v, h1, h2⟩ := retOfM_run hT hC e
  have p : Picks X C sel rowsOut := by
    refine ⟨by rw [hC.rows]; exact hs, hn, fun j hj => ?_⟩
    have : (sel.take X.μ0.length)[j]? = some j := by rw [h0]; simp [hj]
    rw [List.getElem?_take_of_lt hj] at this
    exact this
  obtain ⟨fr, s1, s2, s3, s4, s5, s6⟩ := hstep a C hC.defers b cs hb hk
  have hrel := sel_rel hC.rel p
  have hokr : ∀ b, (selConf C sel rowsOut).ok X true b → (selConf C sel rowsOut).okR X true b := fun _ h => ⟨rfl, h⟩
  refine ⟨selConf C sel rowsOut, fr, ⟨v, rfl, ⟨hrel, ?_, ?_⟩, s3, s4, s5, fn, by rw [s2]; exact hf, by rw [s6]; exact h1⟩, s1, s2⟩
  · intro id ob r e1 e2
    exact (hrel.rel id ob r e1 e2).perm hokr (nr r (List.mem_of_getElem? e2))
  · rw [hret, ← hC.rows] at h2
    exact (sel_av hC.rel p h2).perm hokr na

theorem ak_retM {fn : Func} {rowsOut : List Row} {ret av : AV} (hT : TabOk X.P T) (hf : X.P.funcs[f]? = some fn) (hX : X.ds = [] ∧ X.rnd = none) (e : retOfM T st fn.results.toList = some av)
    (sel : List Nat) (hs : Sel st.rows (selTo sel st.rows.length) sel rowsOut) (hn : sel.Nodup) (h0 : sel.take X.μ0.length = List.range X.μ0.length) (hret : av = renA (selTo sel st.rows.length) ret)
    (nr : ∀ r ∈ rowsOut, NR r) (na : NA ret) : AK X f (.code .ret :: k) (Back X rowsOut ret) st :=
  leaves_retM hT hf e sel hs hn h0 hret nr na fun a C hd b cs hb hk => ⟨_, .one (stepR_ret (hk.2.trans hX.2)), hb, rfl, hd.trans hX.1, hk.1, rfl⟩
theorem ak_endM {fn : Func} {rowsOut : List Row} {ret av : AV} (hT : TabOk X.P T) (hf : X.P.funcs[f]? = some fn) (hX : X.ds = [] ∧ X.rnd = none) (e : retOfM T st fn.results.toList = some av)
    (sel : List Nat) (hs : Sel st.rows (selTo sel st.rows.length) sel rowsOut) (hn : sel.Nodup) (h0 : sel.take X.μ0.length = List.range X.μ0.length) (hret : av = renA (selTo sel st.rows.length) ret)
    (nr : ∀ r ∈ rowsOut, NR r) (na : NA ret) : AK X f [] (Back X rowsOut ret) st :=
  leaves_retM hT hf e sel hs hn h0 hret nr na fun a C hd b cs hb hk => ⟨_, .one (stepR_end (hk.2.trans hX.2)), hb, rfl, hd.trans hX.1, hk.1, rfl⟩

theorem AVRs.at_set {w : World} {ok : Bool → Nat → Prop} {μ : List (Option Nat)} : ∀ {xs : List AV} {vs : List Value} {j : Nat} {y : AV}, AVRs w ok μ xs vs → (∀ v, vs[j]? = some v → AVR w ok μ y v) → AVRs w ok μ (xs.set j y) vs
  | _, _, _, _, .nil, _ => .nil
  | _, _, 0, _, .cons h1 h hs, k => .cons h1 (k _ rfl) hs
  | _, _, j + 1, _, .cons h1 h hs, k => .cons h1 h (AVRs.at_set hs fun v hv => k v (by simpa using hv))
theorem AVRs.at_get {w : World} {ok : Bool → Nat → Prop} {μ : List (Option Nat)} : ∀ {xs : List AV} {vs : List Value} {j : Nat} {y : AV} {v : Value}, AVRs w ok μ xs vs → xs[j]? = some y → vs[j]? = some v → AVR w ok μ y v
  | _, _, j, _, _, .nil, h, _ => by simp at h
  | _, _, 0, _, _, .cons h1 h hs, e1, e2 => by
    simp at e1 e2
    subst e1
    subst e2
    exact h
  | _, _, j + 1, _, _, .cons h1 h hs, e1, e2 => AVRs.at_get hs (by simpa using e1) (by simpa using e2)

variable {k : List Item} {Q : Frame → Frame → Conf → Prop} {st' : St}
theorem ak_nilBox (id j kk : Nat) (ty : TypeId) (g : Nat → List DV) {tb : TypeId} {cs : List AV} (e : (st.rows[id]?).bind (fun r => match r with | .box tb cs => (match cs[j]? with | some (.d (.v (.slice none 0 0))) => some (tb, cs) | _ => none) | _ => none) = some (tb, cs))
    (hs : (⟨st.nt, st.tm, st.rows.set id (.box tb (cs.set j (.own st.rows.length kk 0 0))) ++ [.flat false kk ty 0 g]⟩ : St) = st') (h : AK X f k Q st') : AK X f k Q st := by
  subst hs
  obtain ⟨r, hr, e⟩ := Option.bind_eq_some_iff.1 e
  have hr2 : r = .box tb cs ∧ cs[j]? = some (.d (.v (.slice none 0 0))) := by
    split at e
    · split at e
      · rename_i h1
        simp only [Option.some.injEq, Prod.mk.injEq] at e
        obtain ⟨rfl, rfl⟩ := e
        exact ⟨rfl, h1⟩
      · cases e
    · cases e
  obtain ⟨rfl, hj⟩ := hr2
  intro a C hC b ss hb hk
  have hrel : RowRel C.w ((C.virt (.flat false kk ty 0 g)).ok X) (C.virt (.flat false kk ty 0 g)).μ none (.flat false kk ty 0 g) := rfl
  have hv := HRel.virt hC.rel hrel
  have ev := Ev.virt hC.rel (.flat false kk ty 0 g)
  have hlt := (List.getElem?_eq_some_iff.1 hr).1
  have hr3 : (C.virt (.flat false kk ty 0 g)).rows[id]? = some (.box tb cs) := by
    simp only [Conf.virt, hC.rows]
    rw [List.getElem?_append_left hlt]
    exact hr
  have hN : (C.virt (.flat false kk ty 0 g)).μ[st.rows.length]? = some none := by
    simp [Conf.virt, ← hC.rows, ← hC.rel.len]
  obtain ⟨h1, h2⟩ := rel_swap (r' := .box tb (cs.set j (.own st.rows.length kk 0 0))) hv hr3 (fun _ => rfl) (by simp) (fun ok ob hb => by
    cases ob with
    | none => exact hb
    | some bb =>
      obtain ⟨vs, q1, q2⟩ := hb
      refine ⟨vs, q1, q2.at_set fun v hv => ?_⟩
      have := (q2.at_get hj hv).v_inv
      subst this
      exact .own0 hN)
  refine h a _ ⟨h1, ?_, hC.defers, hC.nt, fun i av e' => ?_⟩ b ss hb hk
  · simp only [Conf.virt, hC.rows]
    rw [List.set_append_left _ _ hlt]
  · obtain ⟨v, q1, q2⟩ := hC.tm i av e'
    exact ⟨v, q1, h2.avr (ev.avr q2)⟩

/-- '[]E{}': a new row of no element. -/
def emptyAt (T : Tab) (st : St) (k : List Item) : Option (TypeId × Nat × Option Tmp × List Item) :=
  match topOp st k with
  | some (o, k') =>
    match o.op with
    | .buildSlice t 0 parts =>
      match T.slices.lookup t, parts.toList with
      | some e, [] => match T.info.lookup e with
        | some (s, _, _) => some (e, s, o.dst, k')
        | none => none
      | _, _ => none
    | _ => none
  | none => none

theorem ak_emptyS {k' : List Item} (hT : TabOk X.P T) (S : List Nat) {e s : Nat} {dst : Option Tmp} (g : Nat → List DV) (he : emptyAt T st k = some (e, s, dst, k'))
    (hput : (St.put { st with rows := st.rows ++ [.flat false s e 0 g] } dst (.own st.rows.length s 0 0)).map (St.only S) = some st') (h : AK X f k' Q st') : AK X f k Q st := by
  obtain ⟨s0, hp, rfl⟩ := Option.map_eq_some_iff.1 hput
  unfold emptyAt at he
  split at he
  · rename_i o k3 htop
    split at he
    · rename_i t parts hop
      split at he
      · rename_i e' hs hparts
        split at he
        · rename_i s' b z hi
          simp only [Option.some.injEq, Prod.mk.injEq] at he
          obtain ⟨rfl, rfl, rfl, rfl⟩ := he
          refine ak_top htop (ak_only S h) fun a C hC => ?_
          have hparts' : parts = #[] := by simpa using hparts
          have ev := Ev.push hC.rel (.cells #[] e') (.flat false s' e' 0 g)
          have hrel := HRel.push hC.rel (o := .cells #[] e') (r := .flat false s' e' 0 g) ⟨#[], fun _ => [], heap_alloc_new _ _, by simp, fun i hi => by simp at hi, fun i hi => by simp at hi, fun i j v hi => by simp at hi⟩
          have hm := hC.moved ev hrel
          refine ⟨.slice (some ⟨C.w.heap.size, 0, none⟩) 0 0, C.push (.cells #[] e') (.flat false s' e' 0 g), _, ?_, hm, .own st.rows.length s' 0 0, ?_, ?_⟩
          · have hsz := hT.size hi C.w
            subst hparts'
            simp only [execOp, hop, Instr.buildSlice, Sem.run_bind, run_underlying (hT.slice hs), Result.andThen_ok, hsz]
            have h0 : ∀ f : Nat → Value, (Array.range 0).map f = #[] := fun f => Array.eq_empty_of_size_eq_zero (by simp)
            simp [Instr.fill, newRow, run_newObj, Conf.push, h0]
          · rw [← hp]
            simp [Conf.push, hC.rows]
          · have hμ : (C.push (.cells #[] e') (.flat false s' e' 0 g)).μ[st.rows.length]? = some (some C.w.heap.size) := by simp [Conf.push, ← hC.rows, ← hC.rel.len]
            have := AVR.own (w := (C.push (.cells #[] e') (.flat false s' e' 0 g)).w) (ok := (C.push (.cells #[] e') (.flat false s' e' 0 g)).ok X) (off := 0) (k := s') (n := 0) (c := 0) hμ (heap_alloc_new C.w (.cells #[] e')) (by simp) (Nat.le_refl _) (Nat.zero_le _)
            rw [Nat.zero_mul] at this
            exact this
        · cases he
      · cases he
    · cases he
  · cases he
end
end Go.Sy
