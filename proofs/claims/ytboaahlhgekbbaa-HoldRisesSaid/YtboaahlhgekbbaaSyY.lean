/- 'clear(s[i:])'. -/
import Derived.Test.YtboaahlhgekbbaaSyX
import Derived.Test.YtboaahlhgekbbaaSyS
set_option linter.unusedVariables false
set_option linter.unusedSimpArgs false
namespace Go.Sy

section
variable {X : Ctx} {T : Tab} {f : FuncId} {k k' : List Item} {Q : Frame → Frame → Conf → Prop} {st st' : St}

/-- A call that makes rows, everything else that is known staying. -/
theorem ak_callDE {P : Program} {g : FuncId} {avs args : List AV} {dst : Option Tmp} {rowsOut : List Row} {ret : AV} (hP : X.P = P) (he : Enters P g) (hs : Says P g [] args rowsOut ret) (e : callAt st k = some (g, avs, dst, k')) (hp : PassL st.rows [] (moveTo [] st.rows.length) avs args)
    (hput : St.put { st with rows := afterCall st.rows [] rowsOut } dst (renA (moveTo [] st.rows.length) ret) = some st') (h : AK X f k' Q st') : AK X f k Q st := by
  subst hP
  exact ak_call [] e he (hands_none _) hp hs hput h

theorem hands_two {rows : List Row} {i j : Nat} {a b : Row} (h1 : rows[i]? = some (renR (moveTo [i, j] rows.length) a)) (h2 : rows[j]? = some (renR (moveTo [i, j] rows.length) b)) (l1 : a.live = true) (l2 : b.live = true) (hn : [i, j].Nodup) : Hands rows [i, j] [a, b] := by
  refine ⟨hn, rfl, ?_⟩
  intro q id r e1 e2
  match q, e1, e2 with
  | 0, e1, e2 =>
    simp at e1 e2
    subst e1
    subst e2
    exact ⟨h1, l1⟩
  | 1, e1, e2 =>
    simp at e1 e2
    subst e1
    subst e2
    exact ⟨h2, l2⟩

def clearAt (T : Tab) (st : St) : List Item → Option (Nat × Nat × Nat × Nat × IntKind × Int × Tmp × List Item)
  | .inRegion ops (i :: j :: rest) :: k =>
    match ops[i]?, ops[j]? with
    | some o, some p =>
      match o.op, o.dst, o.guard, p.op, p.dst, p.guard with
      | .slice t x (some lo) none none, some d, none, .call c, none, none =>
        match c.callee, c.args.toList, c.argTypes.toList with
        | .builtin .clear, [.tmp d'], [t'] =>
          match valOf st.tm x, valOf st.tm lo, T.slices.lookup t, T.slices.lookup t' with
          | some (.own id s off n), some (.d (.v (.int kk l))), some e, some e' =>
            match T.info.lookup e with
            | some (s', _, z) => bif Nat.beq d d' && Nat.beq e e' && Nat.beq s s' && Nat.beq z.length s && z.all (·.oneCell') && Nat.blt d st.nt then some (id, s, off, n, kk, l, d, .inRegion ops rest :: k) else none
            | none => none
          | _, _, _, _ => none
        | _, _, _ => none
      | _, _, _, _, _, _ => none
    | _, _ => none
  | _ => none

theorem zeroCells_one {z : Array Value} {n : Nat} (hz : ∀ v ∈ z.toList, v.oneCell' = true) (hp : 0 < z.size) : ∀ v ∈ (Builtin.zeroCells z n).toList, v.oneCell' = true := by
  intro v hv
  simp only [Builtin.zeroCells, Array.toList_map, List.mem_map] at hv
  obtain ⟨i, _, rfl⟩ := hv
  have : i % z.size < z.size := Nat.mod_lt _ hp
  rw [getElem!_pos z _ this]
  exact hz _ (by simp)

theorem only_skip {d : Nat} {x : AV} {tm : List (Nat × AV)} : ∀ (S : List Nat), S.contains d = false → (S.filterMap fun i => (((d, x) :: tm).lookup i).map fun av => (i, av)) = S.filterMap fun i => (tm.lookup i).map fun av => (i, av)
  | [], _ => rfl
  | q :: S, h => by
    have h1 : ¬ (q = d) ∧ S.contains d = false := by
      simp only [List.contains_cons, Bool.or_eq_false_iff] at h
      exact ⟨fun e => by subst e; simp at h, h.2⟩
    have h2 : (q == d) = false := by simpa using h1.1
    have ih := only_skip (d := d) (x := x) (tm := tm) S h1.2
    simp only [List.filterMap_cons, List.lookup_cons, h2]
    simp only [List.lookup_cons] at ih
    rw [ih]

theorem ak_clear (hT : TabOk X.P T) (S : List Nat) {id s off n N : Nat} {kk : IntKind} {l : Int} {d : Tmp} {ty : TypeId} {g : Nat → List DV} (e : clearAt T st k = some (id, s, off, n, kk, l, d, k')) (hr : st.rows[id]? = some (.flat false s ty N g))
    (h0 : 0 ≤ l) (h1 : l ≤ n) (ho : off = 0) (hN : N = n) (hs0 : 0 < s) (hS : S.contains d = false) (hst : St.only S { st with rows := st.rows.set id (.flat false s ty l.toNat g) } = st') (h : AK X f k' Q st') : AK X f k Q st := by
  subst ho
  subst hN
  unfold clearAt at e
  split at e
  · rename_i ops i j rest k0
    split at e
    · rename_i o p hoi hpj
      split at e
      · rename_i t x lo dd c hop hdst hgd hpop hpdst hpgd
        split at e
        · rename_i d' t' hcal hargs hatys
          split at e
          · rename_i id' s1 off' n' kk' l' el el' hx hlo hsl hsl'
            split at e
            · rename_i s' by' z hi
              cases hb : (Nat.beq dd d' && Nat.beq el el' && Nat.beq s1 s' && Nat.beq z.length s1 && z.all (·.oneCell') && Nat.blt dd st.nt) with
              | false => rw [hb] at e; cases e
              | true =>
                rw [hb] at e
                simp only [cond_true, Option.some.injEq, Prod.mk.injEq] at e
                obtain ⟨rfl, rfl, rfl, rfl, rfl, rfl, rfl, rfl⟩ := e
                simp only [Bool.and_eq_true] at hb
                obtain ⟨⟨⟨⟨⟨b1, b2⟩, b3⟩, b4⟩, b5⟩, b6⟩ := hb
                have b1 := Nat.eq_of_beq_eq_true b1
                have b2 := Nat.eq_of_beq_eq_true b2
                have b3 := Nat.eq_of_beq_eq_true b3
                have b4 := Nat.eq_of_beq_eq_true b4
                subst b1
                subst b2
                subst b3
                intro a C hC b cs hb hk
                have hav := hC.val _ _ hx
                have hlv := (hC.val _ _ hlo).v_inv
                obtain ⟨xv, hxv⟩ : ∃ xv, a.eval x = xv := ⟨_, rfl⟩
                rw [hxv] at hav
                -- the first operation
                have first : ∀ (A : Option Addr) (cc : Nat), xv = .slice A n' cc → n' ≤ cc → (execOp a.eval o).run X.P C.w = .ok (.value (sliced A l'.toNat n' cc s1)) C.w := by
                  intro A cc hA hc
                  have := slice_run (P := X.P) C.w (hT.slice hsl) (hT.size hi C.w) A n' cc (some (kk', l')) none hc (by simpa [loN] using h0) (by simpa [loN, hiN] using h1) (by simp [hiN])
                  simp only [execOp, hop, hxv, hA, hlv, Option.map_some, Option.map_none]
                  simp only [Option.map_some, Option.map_none, loN, hiN, Int.toNat_natCast] at this
                  rw [Sem.run_bind, this]
                  rfl
                have hw1 : Region.wanted o (yielded ops a.tmps) = true := by simp [Region.wanted, hgd]
                have hw2 : ∀ a' : Act, Region.wanted p (yielded ops a'.tmps) = true := fun a' => by simp [Region.wanted, hpgd]
                have key : ∃ v1 C', (execOp a.eval o).run X.P C.w = .ok (.value v1) C.w ∧ v1.oneCell' = true ∧ (Builtin.clear_ #[t'] p.type #[v1]).run X.P C.w = .ok (.tuple #[]) C'.w ∧ C'.rows = C.rows.set id' (.flat false s1 ty l'.toNat g) ∧ HRel X C' ∧ Ev X C C' := by
                  have hrC : C.rows[id']? = some (.flat false s1 ty n' g) := by rw [hC.rows]; exact hr
                  have weak : HRel X ⟨C.μ, C.rows.set id' (.flat false s1 ty l'.toNat g), C.w⟩ ∧ Ev X C ⟨C.μ, C.rows.set id' (.flat false s1 ty l'.toNat g), C.w⟩ := by
                    refine rel_swap hC.rel hrC (fun h => h) (by simp) (fun ok ob hb => ?_)
                    cases ob with
                    | none => simp only [RowRel] at hb ⊢; omega
                    | some bb =>
                      obtain ⟨cs', vs, q1, q2, q3, q4, q5⟩ := hb
                      exact ⟨cs', vs, q1, Nat.le_trans (Nat.mul_le_mul_right _ (by omega)) q2, fun i hi => q3 i (by omega), fun i hi => q4 i (by omega), fun i j v hi => q5 i j v (by omega)⟩
                  have quiet : ∀ (A : Option Addr) (cc : Nat), (Builtin.clear_ #[t'] p.type #[.slice A 0 cc]).run X.P C.w = .ok (.tuple #[]) C.w := by
                    intro A cc
                    cases A <;> simp [Builtin.clear_, run_underlying (hT.slice hsl')]
                  generalize hNN : n' = N' at hav
                  cases hav with
                  | own0 hμ =>
                    subst hNN
                    have hl : l'.toNat = 0 := by omega
                    refine ⟨_, _, first none 0 rfl (Nat.le_refl _), rfl, ?_, rfl, weak.1, weak.2⟩
                    unfold sliced
                    rw [hl]
                    exact quiet _ _
                  | @own _ _ _ _ b0 cc cs0 ty0 hμ hh hsz hn hc =>
                    subst hNN
                    have hf := first _ cc rfl hn
                    by_cases hln : n' - l'.toNat = 0
                    · refine ⟨_, _, hf, rfl, ?_, rfl, weak.1, weak.2⟩
                      unfold sliced
                      rw [hln]
                      exact quiet _ _
                    · have hne : ¬ cc = l'.toNat := by omega
                      have hv1 : sliced (some ⟨b0, 0 * s1, none⟩) l'.toNat n' cc s1 = .slice (some ⟨b0, l'.toNat * s1, none⟩) (n' - l'.toNat) (cc - l'.toNat) := by
                        unfold sliced
                        rw [if_neg hne]
                        simp [Addr.add]
                        try (intro h; exact h.symm)
                      rw [hv1] at hf
                      obtain ⟨csr, vs, r1, r2, r3, r4, r5⟩ := hC.rel.rel id' _ _ hμ hrC
                      have hcs : csr = cs0 ∧ ty = ty0 := by
                        have := r1.symm.trans hh
                        injection this with this
                        injection this with a1 a2 a3
                        exact ⟨a1, a2⟩
                      obtain ⟨rfl, rfl⟩ := hcs
                      obtain ⟨zv, z1, z2⟩ := hT.zero hi C.w
                      have hzs : zv.cells.size = s1 := by rw [z2]; simpa using b4
                      let us := (Builtin.zeroCells zv.cells (n' - l'.toNat)).toList
                      have hul : us.length = (n' - l'.toNat) * s1 := by simp [us, Builtin.zeroCells, hzs]
                      have hsum : l'.toNat * s1 + (n' - l'.toNat) * s1 = n' * s1 := by rw [← Nat.add_mul]; congr 1; omega
                      have hone : ∀ v ∈ us, v.oneCell' = true := zeroCells_one (fun v hv => List.all_eq_true.1 b5 v (by rw [z2] at hv; simpa using hv)) (by omega)
                      have hstore := run_storeCells_at X.P b0 (l'.toNat * s1) ty us 0 csr C.w r1 (by rw [hul]; omega) hone
                      have hclear : (Builtin.clear_ #[t'] p.type #[.slice (some ⟨b0, l'.toNat * s1, none⟩) (n' - l'.toNat) (cc - l'.toNat)]).run X.P C.w = .ok (.tuple #[]) (C.w.setRow b0 (csr.toList.take (l'.toNat * s1 + 0) ++ us ++ csr.toList.drop (l'.toNat * s1 + 0 + us.length)).toArray) := by
                        obtain ⟨q, hq⟩ : ∃ q, n' - l'.toNat = q + 1 := ⟨n' - l'.toNat - 1, by omega⟩
                        have hus2 : us = (Builtin.zeroCells zv.cells (q + 1)).toList := by simp only [us, hq]
                        rw [hus2] at hstore ⊢
                        rw [hq]
                        simp [Builtin.clear_, run_underlying (hT.slice hsl'), z1, hstore]
                      have hsz2 : (csr.toList.take (l'.toNat * s1 + 0) ++ us ++ csr.toList.drop (l'.toNat * s1 + 0 + us.length)).toArray.size = csr.size := by
                        simp only [List.size_toArray, List.length_append, List.length_take, List.length_drop, Array.length_toList, hul]
                        omega
                      have tu := setRow_turns (r' := .flat false s1 ty l'.toNat g) hC.rel hμ hrC rfl r1 hsz2
                      have ev := Ev.turn hC.rel tu
                      have hle : l'.toNat * s1 ≤ n' * s1 := Nat.mul_le_mul_right _ (by omega)
                      refine ⟨_, C.turn id' (.flat false s1 ty l'.toNat g) (C.w.setRow b0 _), hf, rfl, hclear, rfl, HRel.turn hC.rel tu (.inl (by simp)) ?_, ev⟩
                      refine ⟨_, vs, setRow_heap _ _ _ _ _ _ r1, by rw [hsz2]; omega, fun i hi => r3 i (by omega), fun i hi => (r4 i (by omega)).mono ev.ok ev.same, fun i j v hi hj => ?_⟩
                      have hjs : j < s1 := by
                        have := (List.getElem?_eq_some_iff.1 hj).1
                        rwa [r3 i (by omega)] at this
                      have hlt : i * s1 + j < l'.toNat * s1 := by
                        have : i * s1 + s1 ≤ l'.toNat * s1 := by rw [← Nat.succ_mul]; exact Nat.mul_le_mul_right _ hi
                        omega
                      have := r5 i j v (by omega) hj
                      rw [List.getElem?_toArray, Nat.add_zero, List.append_assoc, List.getElem?_append_left (by rw [List.length_take, Array.length_toList]; omega), List.getElem?_take_of_lt hlt]
                      simpa using this
                obtain ⟨v1, C', k1, k2, k3, k4, k5, k6⟩ := key
                have s1' := step_op_value (b := b) (k := k0) (cs := cs) (rest := j :: rest) hoi (by rw [hop]; intro c' hc'; cases hc') hw1 k1
                rw [hdst] at s1'
                have hput : St.put st (some dd) (.d (.v v1)) = some { st with tm := (dd, .d (.v v1)) :: st.tm } := by
                  simp only [St.put]
                  rw [b6]
                  rfl
                have hsim := hC.put hput (v := v1) (.d (.v k2))
                have hex2 : (execOp (a.put (some dd) v1).eval p).run X.P C.w = .ok (.value (.tuple #[])) C'.w := by
                  have hargs' : c.args = #[.tmp dd] := by rw [← Array.toArray_toList (xs := c.args), hargs]
                  have hatys' : c.argTypes = #[t'] := by rw [← Array.toArray_toList (xs := c.argTypes), hatys]
                  have hev : (a.put (some dd) v1).eval (.tmp dd) = v1 := by
                    have := (hsim.val (.tmp dd) (.d (.v v1)) (by simp [valOf])).v_inv
                    exact this
                  simp only [execOp, hpop, resolve, hcal, hargs', hatys', Sem.run_bind, Sem.run_pure, Result.andThen_ok, invoke, builtin, List.map_toArray, List.map_cons, List.map_nil, hev, k3]
                have s2' := step_op_value (b := b) (k := k0) (cs := cs) (rest := rest) hpj (by rw [hpop]; intro c' hc'; cases hc') (hw2 (a.put (some dd) v1)) hex2
                rw [hpdst] at s2'
                have hsim2 := hsim.moved k6 k5
                have hsim3 := hsim2.only S
                have hfin : ({ nt := st.nt, tm := (dd, .d (.v v1)) :: st.tm, rows := C'.rows } : St).only S = st' := by
                  rw [← hst]
                  simp only [St.only, k4, hC.rows]
                  rw [only_skip _ hS]
                have hsim4 : Sim X st' (a.put (some dd) v1) C' := hfin ▸ hsim3
                obtain ⟨C2, fr, q, t1, t2⟩ := h _ C' hsim4 b cs hb hk
                exact ⟨C2, fr, q, ((Steps.one s1').trans (Steps.one s2')).trans t1, t2⟩
            · cases e
          · cases e
        · cases e
      · cases e
    · cases e
  · cases e
end
end Go.Sy
