/- Slices of one element whose slices are rows of their own. -/
import Derived.Test.YtboaahlhgekbbaaSyPtr
set_option linter.unusedVariables false
set_option linter.unusedSimpArgs false
set_option linter.unusedSectionVars false
namespace Go.Sy
open Go.Proofs
section
variable {X : Ctx} {T : Tab} {f : FuncId} {k k' : List Item} {Q : Frame → Frame → Conf → Prop} {st st' : St}

def app1At (st : St) (k : List Item) : Option (Nat × Nat × TypeId × Option Tmp × List Item) :=
  match topOp st k with
  | some (o, k') =>
    match o.op with
    | .call c =>
      match c.callee, c.args.toList, c.argTypes.toList with
      | .builtin .append, [s, x], [t, t'] =>
        match valOf st.tm s, valOf st.tm x with
        | some (.d (.v (.slice none 0 0))), some (.own id kk 0 1) => bif Nat.beq t t' then some (id, kk, t, o.dst, k') else none
        | _, _ => none
      | _, _, _ => none
    | _ => none
  | none => none

/-- append(nil, x), the element holding rows of its own. -/
theorem ak_app1 (hT : TabOk X.P T) (S : List Nat) {id kk by' : Nat} {t e e2 : TypeId} {z : List Value} {dst : Option Tmp} {g : Nat → List AV}
    (e1 : app1At st k = some (id, kk, t, dst, k')) (hr : st.rows[id]? = some (.mix kk e2 1 g)) (ht : T.slices.lookup t = some e) (hi : T.info.lookup e = some (kk, by', z)) (hz : Nat.beq z.length kk = true) (hk : Nat.blt 0 kk = true) (hb : by' ≤ 140737488355328)
    (hput : (St.put { st with rows := st.rows ++ [.mix kk e 1 g] } dst (.own st.rows.length kk 0 1)).map (St.only S) = some st') (h : AK X f k' Q st') : AK X f k Q st := by
  obtain ⟨s0, hp1, rfl⟩ := Option.map_eq_some_iff.1 hput
  unfold app1At at e1
  split at e1
  · rename_i o k3 htop
    split at e1
    · rename_i c hop
      split at e1
      · rename_i sx x0 t0 t1 hcal hargs htys
        split at e1
        · rename_i id0 kk0 hs hx
          cases hb2 : Nat.beq t0 t1 with
          | false => rw [hb2] at e1; cases e1
          | true =>
            rw [hb2] at e1
            have hb2 := Nat.eq_of_beq_eq_true hb2
            simp only [cond_true, Option.some.injEq, Prod.mk.injEq] at e1
            obtain ⟨rfl, rfl, rfl, rfl, rfl⟩ := e1
            subst hb2
            refine ak_top htop (ak_only S h) fun a C hC => ?_
            have hk := Nat.le_of_ble_eq_true hk
            have hz := Nat.eq_of_beq_eq_true hz
            obtain ⟨i0, hi0, hs0, hb0, hz0⟩ := hT.infoAt hi
            obtain ⟨zv, hzv, hzc⟩ := Option.map_eq_some_iff.1 hz0
            have hu := hT.slice ht
            have hzs : zv.cells.size = kk0 := by rw [hzc]; simpa using hz
            have hv1 := (hC.val _ _ hs).v_inv
            have hv2 := hC.val _ _ hx
            rw [← hC.rows] at hr
            generalize hu2 : a.eval x0 = u2 at hv2
            generalize hone : (1 : Nat) = one at hv2
            cases hv2 with
            | own0 hμ => cases hone
            | own hμ hh hs2 hn hc =>
              rename_i b cap cur ty'
              subst hone
              obtain ⟨cs, vs, r1, r2, r3, r4, r5⟩ := hC.rel.rel id0 _ _ hμ hr
              have hn0 : (vs 0).length = kk0 := r3 0 (by omega)
              have hcell : ∀ (j : Nat) v, (vs 0)[j]? = some v → C.w.cell? ((⟨b, 0 * kk0, none⟩ : Addr).add j) = some v := by
                intro j v hj
                rw [Nat.zero_mul, add_none, Nat.zero_add, cell_of_row _ _ _ _ _ _ r1]
                have := r5 0 j v (by omega) hj
                simpa using this
              have hrun := run_append_nil (P := X.P) C.w t0 o.type e i0 zv hu hi0 hzv ⟨b, 0 * kk0, none⟩ 1 cap (vs 0) (by rw [hs0, hn0, Nat.one_mul]) hcell (by omega) (by omega) (by rw [hb0]; omega)
              have hge := grownCap_ge C.w 1 0 e
              have hcm : grownCap C.w 1 0 e ≤ maxLen := grownCap_le_maxLen C.w 1 0 e (by simp only [maxLen]; omega)
              let cur2 : Array Value := (vs 0).toArray ++ Builtin.zeroCells zv.cells (grownCap C.w 1 0 e - 1)
              have hcs : cur2.size = grownCap C.w 1 0 e * kk0 := by
                simp only [cur2, Array.size_append, List.size_toArray, size_zeroCells, hzs, hn0]
                have e9 : kk0 + (grownCap C.w 1 0 e - 1) * kk0 = (1 + (grownCap C.w 1 0 e - 1)) * kk0 := by rw [Nat.add_mul, Nat.one_mul]
                rw [e9]
                congr 1
                omega
              have hd := hC.rel.drew
              have ev2 := Ev.push hd (.cells cur2 e) (.mix kk0 e 1 g)
              have ev : Ev X C (C.drew.push (.cells cur2 e) (.mix kk0 e 1 g)) := Ev.drew.trans ev2
              have hrel : HRel X (C.drew.push (.cells cur2 e) (.mix kk0 e 1 g)) := by
                refine HRel.push hd ⟨cur2, vs, heap_alloc_new _ _, ?_, r3, fun i hi => ?_, fun i j v hi hj => ?_⟩
                · rw [hcs]; exact Nat.mul_le_mul_right _ hge
                · exact ev.avrs (r4 i hi)
                · have hi0' : i = 0 := by omega
                  subst hi0'
                  have hjl : j < (vs 0).length := (List.getElem?_eq_some_iff.1 hj).1
                  simp only [cur2, Nat.zero_mul, Nat.zero_add]
                  rw [Array.getElem?_append_left (by simpa using hjl)]
                  simpa using hj
              refine ⟨.slice (some ⟨C.w.heap.size, 0, none⟩) 1 (grownCap C.w 1 0 e), C.drew.push (.cells cur2 e) (.mix kk0 e 1 g), _, ?_, hC.moved ev hrel, .own C.rows.length kk0 0 1, ?_, ?_⟩
              · have ha : c.args = #[sx, x0] := by rw [← Array.toArray_toList (xs := c.args), hargs]
                have hty : c.argTypes = #[t0, t0] := by rw [← Array.toArray_toList (xs := c.argTypes), htys]
                simp only [execOp, hop, resolve, hcal, ha, hty, Sem.run_bind, Sem.run_pure, Result.andThen_ok, invoke, builtin, List.map_toArray, List.map_cons, List.map_nil, hv1, hu2]
                rw [hrun]
                rfl
              · have : (C.drew.push (.cells cur2 e) (.mix kk0 e 1 g)).rows = st.rows ++ [.mix kk0 e 1 g] := by simp [Conf.push, Conf.drew, hC.rows]
                rw [this, hC.rows]
                exact hp1
              · have hμ' : (C.drew.push (.cells cur2 e) (.mix kk0 e 1 g)).μ[C.rows.length]? = some (some C.w.heap.size) := by
                  simp [Conf.push, Conf.drew, ← hC.rel.len]
                have := AVR.own (w := (C.drew.push (.cells cur2 e) (.mix kk0 e 1 g)).w) (ok := (C.drew.push (.cells cur2 e) (.mix kk0 e 1 g)).ok X) (off := 0) (k := kk0) (n := 1) hμ' (heap_alloc_new C.drew.w (.cells cur2 e)) (by rw [Nat.zero_add]; exact hcs.symm) hge hcm
                rwa [Nat.zero_mul] at this
        · cases e1
      · cases e1
    · cases e1
  · cases e1

def build1At (T : Tab) (st : St) (k : List Item) : Option (List AV × TypeId × Nat × Option Tmp × List Item) :=
  match topOp st k with
  | some (o, k') =>
    match o.op with
    | .buildSlice t n parts =>
      match T.slices.lookup t, parts.toList with
      | some e, [(i, x)] =>
        match T.info.lookup e, valOf st.tm x with
        | some (kk, _, z), some a => bif Nat.beq n 1 && Nat.beq i 0 && Nat.beq (cellsOf a).length kk && !isTup a && Nat.beq z.length kk && Nat.blt 0 kk && Nat.ble kk 16777216 then some (cellsOf a, e, kk, o.dst, k') else none
        | _, _ => none
      | _, _ => none
    | _ => none
  | none => none

/-- '[]E{x}', the element holding rows of its own. -/
theorem ak_build1 (hT : TabOk X.P T) (S : List Nat) {cs : List AV} {e : TypeId} {kk : Nat} {dst : Option Tmp} (e1 : build1At T st k = some (cs, e, kk, dst, k'))
    (hput : (St.put { st with rows := st.rows ++ [.mix kk e 1 (fun _ => cs)] } dst (.own st.rows.length kk 0 1)).map (St.only S) = some st') (h : AK X f k' Q st') : AK X f k Q st := by
  obtain ⟨s0, hp1, rfl⟩ := Option.map_eq_some_iff.1 hput
  unfold build1At at e1
  split at e1
  · rename_i o k3 htop
    split at e1
    · rename_i t n parts hop
      split at e1
      · rename_i e0 i x he hparts
        split at e1
        · rename_i kk0 by' z av hi hx
          cases hb : (Nat.beq n 1 && Nat.beq i 0 && Nat.beq (cellsOf av).length kk0 && !isTup av && Nat.beq z.length kk0 && Nat.blt 0 kk0 && Nat.ble kk0 16777216) with
          | false => rw [hb] at e1; cases e1
          | true =>
            rw [hb] at e1
            simp only [cond_true, Option.some.injEq, Prod.mk.injEq] at e1
            obtain ⟨rfl, rfl, rfl, rfl, rfl⟩ := e1
            simp only [Bool.and_eq_true, Bool.not_eq_true'] at hb
            obtain ⟨⟨⟨⟨⟨⟨b1, b2⟩, b3⟩, b4⟩, b5⟩, b6⟩, b7⟩ := hb
            have b1 := Nat.eq_of_beq_eq_true b1
            have b2 := Nat.eq_of_beq_eq_true b2
            have b3 := Nat.eq_of_beq_eq_true b3
            have b5 := Nat.eq_of_beq_eq_true b5
            have b6 := Nat.le_of_ble_eq_true b6
            have b7 := Nat.le_of_ble_eq_true b7
            subst b1
            subst b2
            refine ak_top htop (ak_only S h) fun a C hC => ?_
            have hv := cellsOf_rel (hC.val _ _ hx) (isTup_ne b4)
            generalize hv0 : a.eval x = v0 at hv
            obtain ⟨zv, e3, e4⟩ := hT.zero hi C.w
            have hsz : v0.cells.size = kk0 := by rw [← b3, hv.length]; simp
            have hfill : Instr.fill (fun i => some (i * kk0, kk0)) ((Array.range (1 * kk0)).map (zv.cells[· % zv.cells.size]!)) [(0, v0)] = some v0.cells := by
              have := fill_parts kk0 1 [(0, v0)] 0 ((Array.range (1 * kk0)).map (zv.cells[· % zv.cells.size]!)).toList (by simp) (by simp [hsz]) (by simp [List.range']) (by simp)
              simp only [Array.toArray_toList] at this
              rw [this]
              simp [List.drop_of_length_le]
            have ev := Ev.push hC.rel (.cells v0.cells e0) (.mix kk0 e0 1 (fun _ => cellsOf av))
            have hrel : HRel X (C.push (.cells v0.cells e0) (.mix kk0 e0 1 (fun _ => cellsOf av))) := by
              refine HRel.push hC.rel ⟨v0.cells, fun _ => v0.cells.toList, heap_alloc_new _ _, by rw [hsz]; omega, fun i _ => by simpa using hsz, fun i _ => ev.avrs hv, fun i j v hi hj => ?_⟩
              have : i = 0 := by omega
              subst this
              simpa using hj
            refine ⟨.slice (some ⟨C.w.heap.size, 0, none⟩) 1 1, C.push (.cells v0.cells e0) (.mix kk0 e0 1 (fun _ => cellsOf av)), _, ?_, hC.moved ev hrel, .own C.rows.length kk0 0 1, ?_, ?_⟩
            · have hs := hT.size hi C.w
              have hpm : (parts.map fun (i, x) => (i, a.eval x)).toList = [(0, v0)] := by
                rw [Array.toList_map, hparts]
                simp [hv0]
              simp only [execOp, hop, Instr.buildSlice, Sem.run_bind, run_underlying (hT.slice he), Result.andThen_ok, hs]
              rw [if_neg (by omega), if_neg (by omega)]
              simp only [Sem.run_bind, Sem.run_pure, Result.andThen_ok, e3, hpm, hfill, newRow, run_newObj]
              rfl
            · have : (C.push (.cells v0.cells e0) (.mix kk0 e0 1 (fun _ => cellsOf av))).rows = st.rows ++ [.mix kk0 e0 1 (fun _ => cellsOf av)] := by simp [Conf.push, hC.rows]
              rw [this, hC.rows]
              exact hp1
            · have hμ' : (C.push (.cells v0.cells e0) (.mix kk0 e0 1 (fun _ => cellsOf av))).μ[C.rows.length]? = some (some C.w.heap.size) := by simp [Conf.push, ← hC.rel.len]
              have := AVR.own (w := (C.push (.cells v0.cells e0) (.mix kk0 e0 1 (fun _ => cellsOf av))).w) (ok := (C.push (.cells v0.cells e0) (.mix kk0 e0 1 (fun _ => cellsOf av))).ok X) (off := 0) (k := kk0) (n := 1) (c := 1) hμ' (heap_alloc_new C.w (.cells v0.cells e0)) (by rw [Nat.zero_add, hsz]; omega) (Nat.le_refl _) (by simp only [maxLen]; omega)
              rwa [Nat.zero_mul] at this
        · cases e1
      · cases e1
    · cases e1
  · cases e1
end
/-- .. one more row coming back. -/
theorem says_shutX1 {P : Program} {f : FuncId} {α : Type} {e : α → List DV} {he : ∀ x, NLs (e x)} {ty tq te : TypeId} {I I' : List Nat → (Nat → α) → Prop} {args : List DV} {kk : Nat} {tr : TypeId} {m : Nat} {gr : Nat → List DV} {ret ret' : AV} (hnr : NR (.flat false kk tr m gr)) (hrE : renA (moveTo [0, 1, 2] 3) ret = renA (selTo [0, 3] 5) ret') (hna : NA ret')
    (hs : ∀ l M, I l M → l.Nodup → ∃ l' dom' M', I' l' M' ∧ (∀ a ∈ l', a ∈ dom') ∧ l'.Nodup ∧
      Says P f [.box tq [.own 1 1 0 l.length], .flat false 1 te l.length (vec eA 0 l), .obj (arO e he ty l M)] (.ptr 0 0 0 0 :: args.map .d) [.box tq [.own 4 1 0 l'.length], .gone, .obj (arO e he ty dom' M'), .flat false kk tr m gr, .flat false 1 te l'.length (vec eA 0 l')] ret) :
    Says P f [.obj (swO e he ty tq te I)] (.ptr 0 0 0 0 :: args.map .d) [.obj (swO e he ty tq te I'), .flat false kk tr m gr] ret' := by
  intro X vs hP hF hR hA
  obtain ⟨b, l, M, hI, hn, ev, hR1⟩ := open_rel (id := 0) hR rfl
  obtain ⟨l', dom', M', hI', hsub, hnd, says⟩ := hs l M hI hn
  generalize hC1 : opened (⟨X.μ0, [.obj (swO e he ty tq te I)], X.w0⟩ : Conf) e he ty tq te 0 b l M = C1 at ev hR1
  have hrows : C1.rows = [.box tq [.own 1 1 0 l.length], .flat false 1 te l.length (vec eA 0 l), .obj (arO e he ty l M)] := by rw [← hC1]; rfl
  have hw : C1.w = X.w0 := by rw [← hC1]; rfl
  have hh : Hands C1.rows [0, 1, 2] [.box tq [.own 1 1 0 l.length], .flat false 1 te l.length (vec eA 0 l), .obj (arO e he ty l M)] := by
    rw [hrows]
    exact hands_three rfl rfl rfl (by decide)
  have hargs : AVRl C1.w (C1.ok X) C1.μ (.ptr 0 0 0 0 :: args.map .d) vs := by
    rw [hw]
    exact hA.mono (fun t c hc => by have := ev.ok t c hc; exact this) (fun _ _ _ => rfl) ev.pre (fun _ cs ty k => ⟨cs, k, rfl⟩)
  have hp : PassL C1.rows [0, 1, 2] (moveTo [0, 1, 2] C1.rows.length) (.ptr 0 0 0 0 :: args.map .d) (.ptr 0 0 0 0 :: args.map .d) := .cons (.same (.ptr 0 0 0 0)) (passL_ds args)
  have hcall := says (callCtx X C1 [0, 1, 2]) vs hP (callFits hR1 hh) (callRel hR1 hh) (passL_rel hR1 hh hp hargs)
  rw [show (callCtx X C1 [0, 1, 2]).w0 = X.w0 from hw] at hcall
  intro cs
  obtain ⟨en, w', fr, ⟨v, μ', rfl, hd⟩, q1, q2, q3⟩ := hcall cs
  refine ⟨_, w', fr, ⟨v, ?_⟩, q1, q2, q3⟩
  have hb := back_rel hR1 hh hd
  have hret := back_ret hR1 hh hd
  have hbr : (backConf C1 [0, 1, 2] μ' [.box tq [.own 4 1 0 l'.length], .gone, .obj (arO e he ty dom' M'), .flat false kk tr m gr, .flat false 1 te l'.length (vec eA 0 l')] w').rows = [.box tq [.own 4 1 0 l'.length], .gone, .obj (arO e he ty dom' M'), .flat false kk tr m gr, .flat false 1 te l'.length (vec eA 0 l')] := by
    simp only [backConf, hrows]
    rfl
  have hbw : (backConf C1 [0, 1, 2] μ' [.box tq [.own 4 1 0 l'.length], .gone, .obj (arO e he ty dom' M'), .flat false kk tr m gr, .flat false 1 te l'.length (vec eA 0 l')] w').w = w' := rfl
  generalize backConf C1 [0, 1, 2] μ' [.box tq [.own 4 1 0 l'.length], .gone, .obj (arO e he ty dom' M'), .flat false kk tr m gr, .flat false 1 te l'.length (vec eA 0 l')] w' = C2 at hb hret hbr hbw
  obtain ⟨ev2, hR3⟩ := shut_rel (I := I') (id := 0) (N := 4) (A := 2) hb (by rw [hbr]; rfl) (by rw [hbr]; rfl) (by rw [hbr]; rfl) hsub hnd hI'
  have hr3 : shutRows C2.rows e he ty tq te I' 0 4 2 = [.obj (swO e he ty tq te I'), .gone, .gone, .flat false kk tr m gr, .gone] := by rw [hbr]; rfl
  rw [hr3] at ev2 hR3
  have hμ0 : X.μ0.length = 1 := hR.len
  have p : Picks X ⟨C2.μ, [.obj (swO e he ty tq te I'), .gone, .gone, .flat false kk tr m gr, .gone], C2.w⟩ [0, 3] [.obj (swO e he ty tq te I'), .flat false kk tr m gr] := ⟨sel_of_eq rfl, by decide, fun j hj => by
    have : j = 0 := by omega
    subst this
    rfl⟩
  have hsel := sel_rel hR3 p
  have hokr : ∀ b, (selConf ⟨C2.μ, [.obj (swO e he ty tq te I'), .gone, .gone, .flat false kk tr m gr, .gone], C2.w⟩ [0, 3] [.obj (swO e he ty tq te I'), .flat false kk tr m gr]).ok X true b → (selConf ⟨C2.μ, [.obj (swO e he ty tq te I'), .gone, .gone, .flat false kk tr m gr, .gone], C2.w⟩ [0, 3] [.obj (swO e he ty tq te I'), .flat false kk tr m gr]).okR X true b := fun _ h => ⟨rfl, h⟩
  rw [show renA (moveTo [0, 1, 2] C1.rows.length) ret = renA (selTo [0, 3] 5) ret' by rw [hrows]; exact hrE] at hret
  rw [← hbw] at hret ⊢
  have hret2 := ev2.avr hret
  exact ⟨(selConf ⟨C2.μ, [.obj (swO e he ty tq te I'), .gone, .gone, .flat false kk tr m gr, .gone], C2.w⟩ [0, 3] [.obj (swO e he ty tq te I'), .flat false kk tr m gr]).μ, rfl, hsel, fun i o r e1 e2 => (hsel.rel i o r e1 e2).perm hokr (by
    match i, e2 with
    | 0, e2 => simp at e2; subst e2; exact .obj _
    | 1, e2 => simp at e2; subst e2; exact hnr
    | i + 2, e2 => simp at e2), (sel_av (av := ret') hR3 p hret2).perm hokr hna⟩
/-- .. one more row coming back. -/
theorem says_shutX2 {P : Program} {f : FuncId} {α : Type} {e : α → List DV} {he : ∀ x, NLs (e x)} {ty tq te : TypeId} {I I' : List Nat → (Nat → α) → Prop} {args : List DV} {kk : Nat} {tr : TypeId} {m : Nat} {gr : Nat → List DV} {ret ret' : AV} {k1 : Nat} {t1 : TypeId} {cs cs' : List AV} (hcs : renL (moveTo [0, 1, 2] 3) cs = cs) (hcs' : renL (selTo [0, 3, 4] 6) cs' = cs) (hnc : NAs cs') (hnr : NR (.flat false kk tr m gr)) (hrE : renA (moveTo [0, 1, 2] 3) ret = renA (selTo [0, 3, 4] 6) ret') (hna : NA ret')
    (hs : ∀ l M, I l M → l.Nodup → ∃ l' dom' M', I' l' M' ∧ (∀ a ∈ l', a ∈ dom') ∧ l'.Nodup ∧
      Says P f [.box tq [.own 1 1 0 l.length], .flat false 1 te l.length (vec eA 0 l), .obj (arO e he ty l M)] (.ptr 0 0 0 0 :: args.map .d) [.box tq [.own 5 1 0 l'.length], .gone, .obj (arO e he ty dom' M'), .mix k1 t1 1 (fun _ => cs), .flat false kk tr m gr, .flat false 1 te l'.length (vec eA 0 l')] ret) :
    Says P f [.obj (swO e he ty tq te I)] (.ptr 0 0 0 0 :: args.map .d) [.obj (swO e he ty tq te I'), .mix k1 t1 1 (fun _ => cs'), .flat false kk tr m gr] ret' := by
  intro X vs hP hF hR hA
  obtain ⟨b, l, M, hI, hn, ev, hR1⟩ := open_rel (id := 0) hR rfl
  obtain ⟨l', dom', M', hI', hsub, hnd, says⟩ := hs l M hI hn
  generalize hC1 : opened (⟨X.μ0, [.obj (swO e he ty tq te I)], X.w0⟩ : Conf) e he ty tq te 0 b l M = C1 at ev hR1
  have hrows : C1.rows = [.box tq [.own 1 1 0 l.length], .flat false 1 te l.length (vec eA 0 l), .obj (arO e he ty l M)] := by rw [← hC1]; rfl
  have hw : C1.w = X.w0 := by rw [← hC1]; rfl
  have hh : Hands C1.rows [0, 1, 2] [.box tq [.own 1 1 0 l.length], .flat false 1 te l.length (vec eA 0 l), .obj (arO e he ty l M)] := by
    rw [hrows]
    exact hands_three rfl rfl rfl (by decide)
  have hargs : AVRl C1.w (C1.ok X) C1.μ (.ptr 0 0 0 0 :: args.map .d) vs := by
    rw [hw]
    exact hA.mono (fun t c hc => by have := ev.ok t c hc; exact this) (fun _ _ _ => rfl) ev.pre (fun _ cs ty k => ⟨cs, k, rfl⟩)
  have hp : PassL C1.rows [0, 1, 2] (moveTo [0, 1, 2] C1.rows.length) (.ptr 0 0 0 0 :: args.map .d) (.ptr 0 0 0 0 :: args.map .d) := .cons (.same (.ptr 0 0 0 0)) (passL_ds args)
  have hcall := says (callCtx X C1 [0, 1, 2]) vs hP (callFits hR1 hh) (callRel hR1 hh) (passL_rel hR1 hh hp hargs)
  rw [show (callCtx X C1 [0, 1, 2]).w0 = X.w0 from hw] at hcall
  intro css
  obtain ⟨en, w', fr, ⟨v, μ', rfl, hd⟩, q1, q2, q3⟩ := hcall css
  refine ⟨_, w', fr, ⟨v, ?_⟩, q1, q2, q3⟩
  have hb := back_rel hR1 hh hd
  have hret := back_ret hR1 hh hd
  have hbr : (backConf C1 [0, 1, 2] μ' [.box tq [.own 5 1 0 l'.length], .gone, .obj (arO e he ty dom' M'), .mix k1 t1 1 (fun _ => cs), .flat false kk tr m gr, .flat false 1 te l'.length (vec eA 0 l')] w').rows = [.box tq [.own 5 1 0 l'.length], .gone, .obj (arO e he ty dom' M'), .mix k1 t1 1 (fun _ => cs), .flat false kk tr m gr, .flat false 1 te l'.length (vec eA 0 l')] := by
    simp only [backConf, hrows, afterCall, setRows, List.take, List.drop, List.map, List.length_cons, List.length_nil, renR, hcs]
    rfl
  have hbw : (backConf C1 [0, 1, 2] μ' [.box tq [.own 5 1 0 l'.length], .gone, .obj (arO e he ty dom' M'), .mix k1 t1 1 (fun _ => cs), .flat false kk tr m gr, .flat false 1 te l'.length (vec eA 0 l')] w').w = w' := rfl
  generalize backConf C1 [0, 1, 2] μ' [.box tq [.own 5 1 0 l'.length], .gone, .obj (arO e he ty dom' M'), .mix k1 t1 1 (fun _ => cs), .flat false kk tr m gr, .flat false 1 te l'.length (vec eA 0 l')] w' = C2 at hb hret hbr hbw
  obtain ⟨ev2, hR3⟩ := shut_rel (I := I') (id := 0) (N := 5) (A := 2) hb (by rw [hbr]; rfl) (by rw [hbr]; rfl) (by rw [hbr]; rfl) hsub hnd hI'
  have hr3 : shutRows C2.rows e he ty tq te I' 0 5 2 = [.obj (swO e he ty tq te I'), .gone, .gone, .mix k1 t1 1 (fun _ => cs), .flat false kk tr m gr, .gone] := by rw [hbr]; rfl
  rw [hr3] at ev2 hR3
  have hμ0 : X.μ0.length = 1 := hR.len
  have p : Picks X ⟨C2.μ, [.obj (swO e he ty tq te I'), .gone, .gone, .mix k1 t1 1 (fun _ => cs), .flat false kk tr m gr, .gone], C2.w⟩ [0, 3, 4] [.obj (swO e he ty tq te I'), .mix k1 t1 1 (fun _ => cs'), .flat false kk tr m gr] := ⟨sel_of_eq (by
    show [some (Row.obj (swO e he ty tq te I')), some (Row.mix k1 t1 1 fun _ => cs), some (Row.flat false kk tr m gr)] = [some (Row.obj (swO e he ty tq te I')), some (Row.mix k1 t1 1 fun _ => renL (selTo [0, 3, 4] 6) cs'), some (Row.flat false kk tr m gr)]
    rw [hcs']), by decide, fun j hj => by
    have : j = 0 := by omega
    subst this
    rfl⟩
  have hsel := sel_rel hR3 p
  have hokr : ∀ b, (selConf ⟨C2.μ, [.obj (swO e he ty tq te I'), .gone, .gone, .mix k1 t1 1 (fun _ => cs), .flat false kk tr m gr, .gone], C2.w⟩ [0, 3, 4] [.obj (swO e he ty tq te I'), .mix k1 t1 1 (fun _ => cs'), .flat false kk tr m gr]).ok X true b → (selConf ⟨C2.μ, [.obj (swO e he ty tq te I'), .gone, .gone, .mix k1 t1 1 (fun _ => cs), .flat false kk tr m gr, .gone], C2.w⟩ [0, 3, 4] [.obj (swO e he ty tq te I'), .mix k1 t1 1 (fun _ => cs'), .flat false kk tr m gr]).okR X true b := fun _ h => ⟨rfl, h⟩
  rw [show renA (moveTo [0, 1, 2] C1.rows.length) ret = renA (selTo [0, 3, 4] 6) ret' by rw [hrows]; exact hrE] at hret
  rw [← hbw] at hret ⊢
  have hret2 := ev2.avr hret
  exact ⟨(selConf ⟨C2.μ, [.obj (swO e he ty tq te I'), .gone, .gone, .mix k1 t1 1 (fun _ => cs), .flat false kk tr m gr, .gone], C2.w⟩ [0, 3, 4] [.obj (swO e he ty tq te I'), .mix k1 t1 1 (fun _ => cs'), .flat false kk tr m gr]).μ, rfl, hsel, fun i o r e1 e2 => (hsel.rel i o r e1 e2).perm hokr (by
    match i, e2 with
    | 0, e2 => simp at e2; subst e2; exact .obj _
    | 1, e2 => simp at e2; subst e2; exact .mix fun _ _ => hnc
    | 2, e2 => simp at e2; subst e2; exact hnr
    | i + 3, e2 => simp at e2), (sel_av (av := ret') hR3 p hret2).perm hokr hna⟩
end Go.Sy
