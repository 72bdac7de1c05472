/- Yield, the statement itself, and leaving behind it. -/
import Derived.Test.YtboaahlhgekbbaaSyQ
import Derived.RangeFuncLeaves
set_option linter.unusedVariables false
set_option linter.unusedSimpArgs false
namespace Go.Sy

section
variable {X : Ctx}

def yieldAt (st : St) : List Item → Option (Nat × AV × Option Tmp × List Item)
  | .inRegion ops (i :: rest) :: k =>
    match ops[i]? with
    | some o =>
      match o.op with
      | .call c =>
        match c.callee, c.args.toList with
        | .value g, [x] =>
          match guardOf st.tm ops o, valOf st.tm g, valOf st.tm x with
          | some true, some (.d (.v (.func (.yield l) fa fc))), some av => bif fa.isEmpty && fc.isEmpty then some (l, av, o.dst, .inRegion ops rest :: k) else none
          | _, _, _ => none
        | _, _ => none
      | _ => none
    | none => none
  | _ => none

theorem ak_yield {P : Program} {f : FuncId} {k k' : List Item} {Q : Frame → Frame → Conf → Prop} {st st' : St} {l : Nat} {av x : AV} {dst : Option Tmp} (S ids : List Nat) {rowsIn rowsOut : List Row} (hP : X.P = P) (hs : RoundSays P l rowsIn x rowsOut)
    (e : yieldAt st k = some (l, av, dst, k')) (hh : Hands st.rows ids rowsIn) (hp : PassL st.rows ids (moveTo ids st.rows.length) [av] [x])
    (hput : (St.put { st with rows := afterCall st.rows ids rowsOut } dst (.d (.v (.bool true)))).map (St.only S) = some st') (h : AK X f k' Q st') : AK X f k Q st := by
  subst hP
  obtain ⟨s0, hput1, rfl⟩ := Option.map_eq_some_iff.1 hput
  clear hput
  unfold yieldAt at e
  split at e
  · rename_i ops i rest k0
    split at e
    · rename_i o ho
      split at e
      · rename_i c hc
        split at e
        · rename_i g x0 hg hargs
          split at e
          · rename_i l0 fa fc av0 hgd hv hx
            cases hb : fa.isEmpty && fc.isEmpty with
            | false => rw [hb] at e; cases e
            | true =>
              rw [hb] at e
              simp only [cond_true, Option.some.injEq, Prod.mk.injEq] at e
              obtain ⟨rfl, rfl, rfl, rfl⟩ := e
              simp only [Bool.and_eq_true, Array.isEmpty_iff] at hb
              obtain ⟨rfl, rfl⟩ := hb
              refine ak_step (ak_only S h) fun a C hC b cs _ => ?_
              have hg2 := (hC.val _ _ hv).v_inv
              have hx2 := hC.val _ _ hx
              have hargs' : c.args = #[x0] := by rw [← Array.toArray_toList (xs := c.args), hargs]
              rw [← hC.rows] at hh hp hput1
              have hpx := passL_rel hC.rel hh hp (AVRl.cons hx2 .nil)
              obtain ⟨fn, tmps, asg, body, hy, hround⟩ := hs (callCtx X C ids) (a.eval x0) rfl (callFits hC.rel hh) (callRel hC.rel hh) (by cases hpx with | cons h _ => exact h)
              have hxe : (execOp a.eval o).run X.P C.w = .ok (.round l0 fn tmps asg body) C.w := by
                simp only [execOp, hc, resolve, hg, hg2, Deferred.ofValue, Sem.run_bind, Sem.run_pure, Result.andThen_ok, invoke, hargs']
                simpa [callCtx] using hy
              have hgg := stepGR_op (P := X.P) (b := b) (k := k0) (cs := cs) (w := C.w) (rest := rest) ho (guard_wanted hC hgd)
              rw [Oper.semAt_eq _ _ _ (by intro c' hc'; rw [hc] at hc'; cases hc')] at hgg
              obtain ⟨w', μ', hd, hsteps⟩ := hround (b.atR a (.inRegion ops (i :: rest) :: k0)) cs
              have henter : step X.P (lone (b.atR a (.inRegion ops (i :: rest) :: k0)) cs C.w) = .next (lone (Frame.round l0 fn tmps asg body .normal) (b.atR a (.inRegion ops (i :: rest) :: k0) :: cs) C.w) :=
                step_lone_go (by rw [hgg]; simp [stepG.apply, hxe, Frame.atR])
              have hfin : (b.atR a (.inRegion ops (i :: rest) :: k0)).finish (.bool true) = b.atR (a.put o.dst (.bool true)) (.inRegion ops rest :: k0) := by
                rw [Frame.finish_atR, ho]; rfl
              rw [hfin] at hsteps
              have hsim : Sim X { st with rows := (backConf C ids μ' rowsOut w').rows } a (backConf C ids μ' rowsOut w') := hC.moved (back_ev hC.rel hh hd.rel) (back_rel hC.rel hh hd)
              exact ⟨_, backConf C ids μ' rowsOut w', hsim.put hput1 (.d (.v rfl)), .head henter hsteps⟩
          · cases e
        · cases e
      · cases e
    · cases e
  · cases e

/-- Leaving with the mark of one loop. -/
theorem ak_retD {f : FuncId} {fn : Func} {rowsOut : List Row} {ret av : AV} {st : St} {k : List Item} {D : Nat} (id : Nat) (hf : X.P.funcs[f]? = some fn) (hX : X.ds = [{ target := .collected D, args := #[] }] ∧ X.rnd = none) (hr : st.rows[id]? = some (.dfr D))
    (e : retOf st.tm fn.results.toList = some av) (sel : List Nat) (hid : id ∉ sel) (hs : Sel st.rows (selTo sel st.rows.length) sel rowsOut) (hn : sel.Nodup) (h0 : sel.take X.μ0.length = List.range X.μ0.length) (hret : av = renA (selTo sel st.rows.length) ret)
    (nr : ∀ r ∈ rowsOut, NR r) (na : NA ret) : AK X f (.code .ret :: k) (Back X.plain rowsOut ret) st := by
  intro a C hC b cs hb hk
  have hrC : C.rows[id]? = some (.dfr D) := by rw [hC.rows]; exact hr
  obtain ⟨ob, hμ⟩ := hC.rel.muOf hrC
  have hd := hC.rel.rel id ob _ hμ hrC
  cases ob with
  | none => exact hd.elim
  | some q =>
    obtain ⟨rfl, hd⟩ := hd
    have tu : Turns X C id q (.dfr q) .gone (C.w.putObj q (.deferred none)) := ⟨hμ, hrC, rfl, rfl, rfl, ⟨rfl, Nat.le_refl _⟩, by simp [World.putObj], fun j hj => World.putObj_heap_other hj, fun cs ty hc => (by rw [hd] at hc; cases hc), fun _ _ => rfl, fun _ _ => rfl⟩
    have ev := Ev.turn hC.rel tu
    have hrel1 := HRel.turn hC.rel tu (.inr rfl) trivial
    have hm := hC.moved ev hrel1
    obtain ⟨v, r1, r2⟩ := retOf_run hm (fn := fn) (av := av) e
    let C1 := C.turn id .gone (C.w.putObj q (.deferred none))
    have hsel : Sel C1.rows (selTo sel C1.rows.length) sel rowsOut := by
      have hl : C1.rows.length = st.rows.length := by simp [C1, Conf.turn, hC.rows]
      rw [hl]
      have gen : ∀ {sel' : List Nat} {rs : List Row}, Sel st.rows (selTo sel st.rows.length) sel' rs → id ∉ sel' → Sel C1.rows (selTo sel st.rows.length) sel' rs := by
        intro sel' rs hs
        induction hs with
        | nil => exact fun _ => .nil
        | cons h1 _ ih =>
          intro hni
          simp only [List.mem_cons, not_or] at hni
          exact .cons (by simp only [C1, Conf.turn, hC.rows]; rw [List.getElem?_set_ne hni.1]; exact h1) (ih hni.2)
      exact gen hs hid
    have p : Picks X C1 sel rowsOut := by
      refine ⟨hsel, hn, fun j hj => ?_⟩
      have : (sel.take X.μ0.length)[j]? = some j := by rw [h0]; simp [hj]
      rw [List.getElem?_take_of_lt hj] at this
      exact this
    have hrel := sel_rel hrel1 p
    have hokr : ∀ b, (selConf C1 sel rowsOut).ok X true b → (selConf C1 sel rowsOut).okR X true b := fun _ h => ⟨rfl, h⟩
    have s1 := stepR_ret (P := X.P) (b := b) (a := a) (k := k) (cs := cs) (w := C.w) (hk.2.trans hX.2)
    have hdf : ({ b.atR a (.code .ret :: k) with mode := .returning } : Frame).defers = ({ target := .collected q, args := #[] } : Deferred) :: [] := hC.defers.trans hX.1
    have s2 := step_collected (P := X.P) (cs := cs) (w := C.w) (fr := { b.atR a (.code .ret :: k) with mode := .returning }) (by simp) hdf rfl (run_takeDeferred hd)
    refine ⟨selConf C1 sel rowsOut, _, ⟨v, rfl, ⟨hrel.plain, ?_, ?_⟩, ?_⟩, .head s1 (.one s2), hb⟩
    · intro j ob r e1 e2
      exact (hrel.rel j ob r e1 e2).perm hokr (nr r (List.mem_of_getElem? e2))
    · have hl : C1.rows.length = st.rows.length := by simp [C1, Conf.turn, hC.rows]
      rw [hret, ← hl] at r2
      exact (sel_av hrel1 p r2).perm hokr na
    · exact ⟨rfl, rfl, hk.1, fn, by show X.P.funcs[b.fn]? = _; rw [hb]; exact hf, r1⟩

/-! ### The statement -/
def Ctx.mark (X : Ctx) (D : Nat) : Ctx := { X with ds := [{ target := .collected D, args := #[] }], rnd := none }
theorem mark_plain (D : Nat) (hX : X.ds = [] ∧ X.rnd = none) : (X.mark D).plain = X := by
  obtain ⟨P, w0, μ0, okp, ds, rnd⟩ := X
  obtain ⟨h1, h2⟩ := hX
  simp only at h1 h2
  subst h1
  subst h2
  rfl
theorem HRel.mark {C : Conf} (D : Nat) (h : HRel X C) : HRel (X.mark D) C := ⟨h.len, h.os, h.tape, h.output, h.size, h.keep, h.shape, h.first, h.place, h.apart, h.placeX, h.apartX, h.rel⟩

theorem slots_rel {st : St} {a : Act} {C : Conf} (h : Sim X st a C) : ∀ {is : List Nat} {xs : List AV}, is.map (fun i => st.tm.lookup i) = xs.map some →
    ∃ vs, AVRl C.w (C.ok X) C.μ xs vs ∧ ∀ (j i : Nat) v, is[j]? = some i → vs[j]? = some v → a.tmps[i]? = some v
  | [], [], _ => ⟨[], .nil, fun _ _ _ h => by simp at h⟩
  | [], _ :: _, e => by simp at e
  | _ :: _, [], e => by simp at e
  | i :: is, x :: xs, e => by
    simp only [List.map_cons, List.cons.injEq] at e
    obtain ⟨v, h1, h2⟩ := h.tm i x e.1
    obtain ⟨vs, h3, h4⟩ := slots_rel h e.2
    refine ⟨v :: vs, .cons h2 h3, fun j q u hj hu => ?_⟩
    cases j with
    | zero =>
      simp at hj hu
      subst hj
      subst hu
      exact h1
    | succ j => exact h4 j q u (by simpa using hj) (by simpa using hu)

def rowsR (rows : List Row) (D : Nat) (f : FuncId) (nt : Nat) (is : List Nat) (xs : List AV) (p : Tmp) (asg body : Code) : List Row := rows ++ [.dfr D, .loop (D + 1) .ready f nt is xs #[p] asg body]

set_option maxHeartbeats 1000000 in
theorem ak_rangeFunc {P : Program} {f g : FuncId} {fop : Operand} {p : Tmp} {asg body : Code} {k : List Item} {Q : Frame → Frame → Conf → Prop} {st : St} {caps : List DV} {ret : AV} (is : List Nat) (xs xs' : List AV) (ids : List Nat) (rowsIn rowsOut : Nat → List Row) (args : Nat → List AV)
    (hP : X.P = P) (hX : X.ds = [] ∧ X.rnd = none) (hv : valOf st.tm fop = some (.d (.fn g caps))) (he : Enters P g) (hxs : is.map (fun i => st.tm.lookup i) = xs.map some)
    (hs : ∀ l, Says P g (rowsIn l) (args l) (rowsOut l) ret)
    (hh : ∀ D, Hands (rowsR st.rows D f st.nt is xs p asg body) ids (rowsIn (D + 1)))
    (hp : ∀ D, PassL (rowsR st.rows D f st.nt is xs p asg body) ids (moveTo ids (rowsR st.rows D f st.nt is xs p asg body).length) (.d (.v (.func (.yield (D + 1)) #[] #[])) :: caps.map .d) (args (D + 1)))
    (hl : ∀ D, (afterCall (rowsR st.rows D f st.nt is xs p asg body) ids (rowsOut (D + 1)))[st.rows.length + 1]? = some (.loop (D + 1) .ready f st.nt is xs' #[p] asg body))
    (h : ∀ D, AK (X.mark D) f k Q ⟨st.nt, st.tm, (afterCall (rowsR st.rows D f st.nt is xs p asg body) ids (rowsOut (D + 1))).set (st.rows.length + 1) .gone⟩) :
    AK X f (.code (.rangeFunc fop #[p] asg body) :: k) Q st := by
  subst hP
  intro a C hC b cs hb hk
  obtain ⟨vs, v1, v2⟩ := slots_rel hC hxs
  let D := C.w.heap.size
  let C1 := C.push (.deferred (some [])) (.dfr D)
  have h1 : HRel X C1 := HRel.push hC.rel ⟨rfl, heap_alloc_new _ _⟩
  have e1 : Ev X C C1 := Ev.push hC.rel _ _
  have hD1 : C1.w.heap.size = D + 1 := World.size_alloc _ _
  let lp : Loop := { state := .ready, pending := none, fn := f, tmps := a.tmps, params := #[p], assign := asg, body := body, defers := D }
  let C2 := C1.push (.loop lp) (.loop (D + 1) .ready f st.nt is xs #[p] asg body)
  have e2 : Ev X C1 C2 := Ev.push h1 _ _
  have ev := e1.trans e2
  have h2 : HRel X C2 := HRel.push h1 ⟨hD1, a.tmps, D, vs, heap_alloc_new _ _, hC.nt, AVRl.mono ev.ok ev.same ev.pre ev.shape v1, v2⟩
  have hrows2 : C2.rows = rowsR st.rows D f st.nt is xs p asg body := by simp [C2, C1, Conf.push, hC.rows, rowsR]
  have s2 : Sim X { st with rows := C2.rows } a C2 := hC.moved ev h2
  -- the call
  obtain ⟨gcs, hgv, hgr⟩ : ∃ gcs : List Value, a.eval fop = .func (.func g) #[] gcs.toArray ∧ VRs C2.w (C2.ok X) caps gcs := by
    have := s2.val fop _ hv
    generalize a.eval fop = u at this
    cases this with
    | d hh =>
      cases hh with
      | fn hh => exact ⟨_, rfl, hh⟩
  have henter : (Instr.enterLoop b.fn a.tmps #[p] asg body b.roundOf).run X.P C.w = .ok (D + 1, [{ target := .collected D, args := #[] }]) C2.w := by
    rw [hb, hk.2.trans hX.2]
    exact run_enterLoop_outer f a.tmps #[p] asg body
  have hres : (resolve a.eval (rangeCall fop (D + 1)) 0).run X.P C2.w = .ok { target := .fn (.func g) gcs.toArray, args := #[.func (.yield (D + 1)) #[] #[]] } C2.w := by
    have hcv : a.eval (.const (.func (.yield (D + 1)) #[] #[])) = .func (.yield (D + 1)) #[] #[] := rfl
    simp [resolve, rangeCall, hgv, Deferred.ofValue, hcv]
  have hinv : (invoke (.fn (.func g) gcs.toArray) #[.func (.yield (D + 1)) #[] #[]]).run X.P C2.w = .ok (.enter g (#[.func (.yield (D + 1)) #[] #[]] ++ gcs.toArray)) C2.w := by
    simp only [invoke]
    exact he _ _
  have hstep := stepR_rangeFunc (P := X.P) (b := b) (a := a) (k := k) (cs := cs) henter hres hinv
  have hhd := hh D
  have hpd := hp D
  have hld := hl D
  have hkd := h D
  rw [← hrows2] at hhd hpd hld hkd
  have hargs : AVRl C2.w (C2.ok X) C2.μ (.d (.v (.func (.yield (D + 1)) #[] #[])) :: caps.map .d) (.func (.yield (D + 1)) #[] #[] :: gcs) := .cons (.d (.v rfl)) (hgr.toA).toL
  have hcall := hs (D + 1) (callCtx X C2 ids) _ rfl (callFits h2 hhd) (callRel h2 hhd) (passL_rel h2 hhd hpd hargs)
  have hae : (Value.func (.yield (D + 1)) #[] #[] :: gcs).toArray = #[.func (.yield (D + 1)) #[] #[]] ++ gcs.toArray := by simp
  rw [hae] at hcall
  obtain ⟨e, w', fr, ⟨v, μ', rfl, hd⟩, hsteps, _, hleave⟩ := hcall (b.atR { a with defers := [{ target := .collected D, args := #[] }] ++ a.defers } (.inRangeFunc (D + 1) :: k) :: cs)
  have hback := step_leave_returned (c := b.atR { a with defers := [{ target := .collected D, args := #[] }] ++ a.defers } (.inRangeFunc (D + 1) :: k)) (cs := cs) hleave
  rw [finish_atR_inRangeFunc] at hback
  have hb2 := back_rel h2 hhd hd
  have eb := back_ev h2 hhd hd.rel
  have sb := s2.moved eb hb2
  -- the loop is over
  obtain ⟨ob, hμ⟩ := hb2.muOf hld
  have hlr := hb2.rel _ ob _ hμ hld
  cases ob with
  | none => exact hlr.elim
  | some q =>
    obtain ⟨rfl, T, D', vs', r1, r2, r3, r4⟩ := hlr
    have hend := stepR_endRangeFunc (P := X.P) (b := b) (a := { a with defers := [{ target := .collected D, args := #[] }] ++ a.defers }) (k := k) (cs := cs) (run_endLoop r1 (by simp))
    have tu := putObj_turns (r' := .gone) hb2 (.loop { state := .exhausted, pending := none, fn := f, tmps := T, params := #[p], assign := asg, body := body, defers := D' }) hμ hld rfl r1
    have h3 := HRel.turn hb2 tu (.inr rfl) trivial
    have ev3 := Ev.turn hb2 tu
    have s3 := sb.moved ev3 h3
    have hfin : Sim (X.mark D) ⟨st.nt, st.tm, (afterCall C2.rows ids (rowsOut (D + 1))).set (st.rows.length + 1) .gone⟩ { a with defers := [{ target := .collected D, args := #[] }] ++ a.defers } _ := ⟨s3.rel.mark D, s3.rows, by simp [Ctx.mark, hC.defers, hX.1], s3.nt, s3.tm⟩
    obtain ⟨C', fr', q1, q2, q3⟩ := hkd _ _ hfin b cs hb ⟨hk.1, hk.2.trans hX.2⟩
    exact ⟨C', fr', q1, .head hstep (hsteps.trans (.head hback (.head hend q2))), q3⟩
end
theorem hands_three {rows : List Row} {i j k : Nat} {a b c : Row} (h1 : rows[i]? = some (renR (moveTo [i, j, k] rows.length) a)) (h2 : rows[j]? = some (renR (moveTo [i, j, k] rows.length) b)) (h3 : rows[k]? = some (renR (moveTo [i, j, k] rows.length) c))
    (hn : [i, j, k].Nodup) (l1 : a.live = true := by rfl) (l2 : b.live = true := by rfl) (l3 : c.live = true := by rfl) : Hands rows [i, j, k] [a, b, c] := by
  refine ⟨hn, rfl, fun q id r hq hr => ?_⟩
  match q with
  | 0 => simp at hq hr; subst hq; subst hr; exact ⟨h1, l1⟩
  | 1 => simp at hq hr; subst hq; subst hr; exact ⟨h2, l2⟩
  | 2 => simp at hq hr; subst hq; subst hr; exact ⟨h3, l3⟩
  | q + 3 => simp at hq
end Go.Sy
