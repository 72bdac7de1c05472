/- Calls through interface values whose dynamic type is known; assertions of that type. -/
import Derived.Test.YtboaahlhgekbbaaSyObj
set_option linter.unusedSectionVars false
set_option linter.unusedVariables false
set_option linter.unusedSimpArgs false
namespace Go.Sy

/-- The method of a type, by its name: it is called with the value as it is. -/
def Meth (P : Program) (t : TypeId) (name : String) (g : FuncId) : Prop :=
  ∀ (a : Addr) (w : World), (Go.method (P.types.size + Made.depth) t (.pointer (some a)) name).run P w = .ok (g, .pointer (some a)) w

def ifcOf : AV → Option (TypeId × AV)
  | .ifc t x => some (t, x)
  | .d (.ifc t x) => some (t, .d x)
  | _ => none

def callIAt (st : St) : List Item → Option (TypeId × String × AV × List AV × Option Tmp × List Item)
  | .inRegion ops (i :: rest) :: k =>
    match ops[i]? with
    | some o =>
      match o.op with
      | .call c =>
        match c.callee with
        | .invoke r name =>
          match guardOf st.tm ops o, (valOf st.tm r).bind ifcOf, mapVal (valOf st.tm) c.args.toList with
          | some true, some (t, x), some xs => bif isRef x then some (t, name, x, xs, o.dst, .inRegion ops rest :: k) else none
          | _, _, _ => none
        | _ => none
      | _ => none
    | none => none
  | _ => none

section
variable {X : Ctx} {T : Tab} {f : FuncId} {k k' : List Item} {Q : Frame → Frame → Conf → Prop} {st st' : St}

theorem ifc_run {w : World} {ok : Bool → Nat → Prop} {μ : List (Option Nat)} {x y : AV} {t : TypeId} {v : Value} (h : AVR w ok μ x v) (e : ifcOf x = some (t, y)) : ∃ u, v = .iface t u ∧ AVR w ok μ y u := by
  cases h with
  | ifc h => simp only [ifcOf, Option.some.injEq, Prod.mk.injEq] at e; obtain ⟨rfl, rfl⟩ := e; exact ⟨_, rfl, h⟩
  | d h =>
    cases h with
    | ifc h => simp only [ifcOf, Option.some.injEq, Prod.mk.injEq] at e; obtain ⟨rfl, rfl⟩ := e; exact ⟨_, rfl, .d h⟩
    | _ => simp [ifcOf] at e
  | _ => simp [ifcOf] at e

theorem ak_callI0 {g : FuncId} {avs args : List AV} {x : AV} {t : TypeId} {name : String} {dst : Option Tmp} (ids : List Nat) {rowsIn rowsOut : List Row} {ret : AV}
    (e : callIAt st k = some (t, name, x, avs, dst, k')) (hm : Meth X.P t name g) (hnf : ∀ f c, x ≠ .d (.fn f c)) (hnf2 : ∀ f c, x ≠ .fn f c) (he : Enters X.P g) (hh : Hands st.rows ids rowsIn) (hp : PassL st.rows ids (moveTo ids st.rows.length) (x :: avs) args) (hs : Says X.P g rowsIn args rowsOut ret)
    (hput : St.put { st with rows := afterCall st.rows ids rowsOut } dst (renA (moveTo ids st.rows.length) ret) = some st') (h : AK X f k' Q st') : AK X f k Q st := by
  unfold callIAt at e
  split at e
  · rename_i ops i rest k0
    split at e
    · rename_i o ho
      split at e
      · rename_i c hc
        split at e
        · rename_i rv nm hg
          refine ak_step h fun a C hC b cs _ => ?_
          have hrun : ∃ vs, (execOp a.eval o).run X.P C.w = .ok (.enter g vs.toArray) C.w ∧ AVRl C.w (C.ok X) C.μ (x :: avs) vs ∧ guardOf st.tm ops o = some true ∧ o.dst = dst ∧ k' = .inRegion ops rest :: k0 := by
            split at e
            · rename_i t0 x0 xs h1 h2 h3
              cases hb : isRef x0 with
              | false => rw [hb] at e; cases e
              | true =>
                rw [hb] at e
                simp only [cond_true, Option.some.injEq, Prod.mk.injEq] at e
                obtain ⟨rfl, rfl, rfl, rfl, e3, e4⟩ := e
                obtain ⟨av, h4, h5⟩ := Option.bind_eq_some_iff.1 h2
                have hv := hC.val _ _ h4
                obtain ⟨u, hu, hr⟩ := ifc_run hv h5
                obtain ⟨ad, had⟩ : ∃ ad, u = .pointer (some ad) := by
                  rcases hr.ref_inv hb with ⟨ad, rfl⟩ | ⟨f', c', rfl⟩
                  · exact ⟨ad, rfl⟩
                  · exfalso
                    cases hr with
                    | fn hr => exact hnf2 _ _ rfl
                    | d hr =>
                      cases hr with
                      | fn hr => exact hnf _ _ rfl
                      | v hr => simp [isRef] at hb
                subst had
                refine ⟨.pointer (some ad) :: c.args.toList.map a.eval, ?_, .cons hr (mapVal_rel hC.val h3), h1, e3, e4.symm⟩
                simp only [execOp, hc, resolve, hg, hu, Sem.run_bind, Sem.run_pure, Result.andThen_ok, invoke, callMethod]
                have hz : (#[Value.iface t0 (.pointer (some ad))] ++ Array.map a.eval c.args)[0]? = some (.iface t0 (.pointer (some ad))) := by
                  rw [Array.getElem?_append_left (by simp)]
                  rfl
                rw [hz]
                simp only [Sem.run_bind, run_program, Result.andThen_ok, hm ad C.w]
                rw [he]
                congr 2
                refine Array.ext' ?_
                have : List.take c.args.size (List.map a.eval c.args.toList) = List.map a.eval c.args.toList := List.take_of_length_le (by rw [List.length_map, Array.length_toList]; exact Nat.le_refl _)
                simp [this]
            · cases e
          obtain ⟨vs, hx, hargs, hgd, hdst, rfl⟩ := hrun
          subst hdst
          rw [← hC.rows] at hh hp hput
          have hcall := hs (callCtx X C ids) vs rfl (callFits hC.rel hh) (callRel hC.rel hh) (passL_rel hC.rel hh hp hargs)
          obtain ⟨e, w', fr, ⟨v, μ', rfl, hd⟩, hsteps, _, hleave⟩ := hcall (b.atR a (.inRegion ops (i :: rest) :: k0) :: cs)
          have hgg := stepGR_op (P := X.P) (b := b) (k := k0) (cs := cs) (w := C.w) (rest := rest) ho (guard_wanted hC hgd)
          rw [Oper.semAt_eq _ _ _ (by intro c' hc'; rw [hc] at hc'; cases hc')] at hgg
          have henter : step X.P (lone (b.atR a (.inRegion ops (i :: rest) :: k0)) cs C.w) = .next (lone (Frame.enter X.P g vs.toArray .normal) (b.atR a (.inRegion ops (i :: rest) :: k0) :: cs) C.w) :=
            step_lone_go (by rw [hgg]; simp [stepG.apply, hx, Frame.atR])
          have hfin : (b.atR a (.inRegion ops (i :: rest) :: k0)).finish v = b.atR (a.put o.dst v) (.inRegion ops rest :: k0) := by
            rw [Frame.finish_atR, ho]; rfl
          have hsim : Sim X { st with rows := (backConf C ids μ' rowsOut w').rows } a (backConf C ids μ' rowsOut w') := hC.moved (back_ev hC.rel hh hd.rel) (back_rel hC.rel hh hd)
          refine ⟨_, backConf C ids μ' rowsOut w', hsim.put hput (back_ret hC.rel hh hd), .head henter (hsteps.trans (.one ?_))⟩
          rw [← hfin]
          exact step_leave_returned hleave
        · cases e
      · cases e
    · cases e
  · cases e

/-! ### As printed -/
theorem ak_callIP {P : Program} {g : FuncId} {avs args : List AV} {x : AV} {t : TypeId} {name : String} {dst : Option Tmp} (S ids : List Nat) {rowsIn rowsOut : List Row} {ret : AV}
    (hP : X.P = P) (hm : Meth P t name g) (he : Enters P g) (hs : Says P g rowsIn args rowsOut ret) (e : callIAt st k = some (t, name, x, avs, dst, k')) (hnf : ∀ f c, x ≠ .d (.fn f c)) (hnf2 : ∀ f c, x ≠ .fn f c) (hh : Hands st.rows ids rowsIn) (hp : PassL st.rows ids (moveTo ids st.rows.length) (x :: avs) args)
    (hput : (St.put { st with rows := afterCall st.rows ids rowsOut } dst (renA (moveTo ids st.rows.length) ret)).map (St.only S) = some st') (h : AK X f k' Q st') : AK X f k Q st := by
  subst hP
  obtain ⟨s0, h1, rfl⟩ := Option.map_eq_some_iff.1 hput
  exact ak_callI0 ids e hm hnf hnf2 he hh hp hs h1 (ak_only S h)
def oA : Option Nat → AV
  | none => .d .np
  | some a => .d (pA a 0)

/-! ### Assertions -/
def assertAt (st : St) (k : List Item) : Option (TypeId × AV × Option Tmp × List Item) :=
  match topOp st k with
  | some (o, k') =>
    match o.op with
    | .typeAssert x t a true =>
      match (valOf st.tm x).bind ifcOf with
      | some (t', y) => bif Nat.beq t' a then some (a, y, o.dst, k') else none
      | none => none
    | _ => none
  | none => none
theorem ak_assert (hT : TabOk X.P T) (S : List Nat) {a : TypeId} {y : AV} {dst : Option Tmp} (e : assertAt st k = some (a, y, dst, k')) {d : TypeDesc} (hd : X.P.underlying a = some d) (hni : ∀ ms, d ≠ .interface ms)
    (hput : (St.put st dst (.tup [y, .d (.v (.bool true))])).map (St.only S) = some st') (h : AK X f k' Q st') : AK X f k Q st := by
  obtain ⟨s0, h1, rfl⟩ := Option.map_eq_some_iff.1 hput
  unfold assertAt at e
  split at e
  · rename_i o k3 htop
    split at e
    · rename_i x t a0 hop
      split at e
      · rename_i t' y' hx
        cases hb : Nat.beq t' a0 with
        | false => rw [hb] at e; cases e
        | true =>
          rw [hb] at e
          simp only [cond_true, Option.some.injEq, Prod.mk.injEq] at e
          obtain ⟨rfl, rfl, rfl, rfl⟩ := e
          have ht := Nat.eq_of_beq_eq_true hb
          subst ht
          refine ak_top htop (ak_only S h) fun a' C hC => ?_
          obtain ⟨av, h4, h5⟩ := Option.bind_eq_some_iff.1 hx
          obtain ⟨u, hu, hr⟩ := ifc_run (hC.val _ _ h4) h5
          refine ⟨.tuple #[u, .bool true], C, st, ?_, hC, _, h1, .tup (.cons hr (.cons (.d (.v rfl)) .nil))⟩
          simp only [execOp, hop, hu, Instr.typeAssert, Sem.run_bind, run_underlying hd, Result.andThen_ok]
          cases d <;> first | (exact absurd rfl (hni _)) | simp
      · cases e
    · cases e
  · cases e
end

theorem ak_append10 {X : Ctx} {T : Tab} {f : FuncId} {k k' : List Item} {Q : Frame → Frame → Conf → Prop} {st st' : St} {α : Type} (hT : TabOk X.P T) {id kk id2 by' : Nat} {t e e2 : TypeId} {z : List Value} {dst : Option Tmp} {fz : Bool} (enc : α → List DV) (d : α) (xs : List α) (x : α)
    (e1 : appAt st k = some (id, kk, xs.length, .own id2 kk 0 1, t, dst, k')) (hr : st.rows[id]? = some (.flat false kk e xs.length (vec enc d xs))) (hr2 : st.rows[id2]? = some (.flat fz kk e2 1 (fun j => [enc x].getD j [])))
    (ht : T.slices.lookup t = some e) (hi : T.info.lookup e = some (kk, by', z)) (hz : Nat.beq z.length kk = true) (hk : Nat.blt 0 kk = true) (hb : (xs.length + 1) * by' ≤ 140737488355328) (hlim : xs.length + 1 ≤ 9223372036854775807)
    (hput : St.put { st with rows := st.rows.set id .gone ++ [.flat false kk e (xs ++ [x]).length (vec enc d (xs ++ [x]))] } dst (.own st.rows.length kk 0 (xs ++ [x]).length) = some st') (h : AK X f k' Q st') : AK X f k Q st :=
  ak_append hT (vec enc d (xs ++ [x])) e1 hr (.own hr2) ht hi hz hk (by simp) hb hlim vec_left vec_last hput h
theorem ak_keep {X : Ctx} {f : FuncId} {k : List Item} {Q : Frame → Frame → Conf → Prop} {st st' : St} (S : List Nat) (e : St.only S st = st') (h : AK X f k Q st') : AK X f k Q st := ak_only S (e ▸ h)
theorem hands_four {rows : List Row} {i j k l : Nat} {a b c d : Row} (h1 : rows[i]? = some (renR (moveTo [i, j, k, l] rows.length) a)) (h2 : rows[j]? = some (renR (moveTo [i, j, k, l] rows.length) b)) (h3 : rows[k]? = some (renR (moveTo [i, j, k, l] rows.length) c)) (h4 : rows[l]? = some (renR (moveTo [i, j, k, l] rows.length) d))
    (hn : [i, j, k, l].Nodup) (l1 : a.live = true := by rfl) (l2 : b.live = true := by rfl) (l3 : c.live = true := by rfl) (l4 : d.live = true := by rfl) : Hands rows [i, j, k, l] [a, b, c, d] := by
  refine ⟨hn, rfl, fun q id r hq hr => ?_⟩
  match q with
  | 0 => simp at hq hr; subst hq; subst hr; exact ⟨h1, l1⟩
  | 1 => simp at hq hr; subst hq; subst hr; exact ⟨h2, l2⟩
  | 2 => simp at hq hr; subst hq; subst hr; exact ⟨h3, l3⟩
  | 3 => simp at hq hr; subst hq; subst hr; exact ⟨h4, l4⟩
  | q + 4 => simp at hq
end Go.Sy
