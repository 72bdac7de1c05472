/- A string's bytes, appended. -/
import Derived.Test.YtboaahlhgekbbaaSyStr
set_option linter.unusedVariables false
set_option linter.unusedSimpArgs false
namespace Go.Sy

section
variable {X : Ctx} {C : Conf} {T : Tab}

set_option maxHeartbeats 1000000 in
theorem append_confS (hT : TabOk X.P T) (h : HRel X C) {id k m n by' : Nat} {t tu e ty : TypeId} {z : List Value} {g gs g' : Nat → List DV} {v : Value} {news : List Value} (s : ByteArray) (hk1 : k = 1) (hm1 : m = s.size) (hnews : news = Lib.strCells s) (htu : X.P.underlying tu = some .string)
    (slen : news.length = m * k) (srel : ∀ i, i < m → VRs C.w (C.ok X) (gs i) ((news.drop (i * k)).take k)) (sone : ∀ v ∈ news, v.oneCell' = true)
    (hr : C.rows[id]? = some (.flat false k e n g)) (hv : AVR C.w (C.ok X) C.μ (.own id k 0 n) v) (ht : T.slices.lookup t = some e) (hi : T.info.lookup e = some (k, by', z)) (hz : z.length = k) (hk : 0 < k)
    (hb : (n + m) * by' ≤ 140737488355328) (hlim : n + m ≤ 9223372036854775807) (h1 : ∀ i, i < n → g' i = g i) (h2 : ∀ i, i < m → g' (n + i) = gs i) :
    ∃ v' C', (Builtin.append_ #[t, tu] ty #[v, .string s]).run X.P C.w = .ok v' C'.w ∧ C'.rows = C.rows.set id .gone ++ [.flat false k e (n + m) g'] ∧ HRel X C' ∧ Ev X C C' ∧ AVR C'.w (C'.ok X) C'.μ (.own C.rows.length k 0 (n + m)) v' := by
  obtain ⟨i0, hi0, hs0, hb0, hz0⟩ := hT.infoAt hi
  obtain ⟨zv, hzv, hzc⟩ := Option.map_eq_some_iff.1 hz0
  have hu := hT.slice ht
  have hsrc : Src X.P i0.size tu (.string s) m news C.w := by
    have q := Src.ofString (P := X.P) C.w htu s
    rw [hs0, hk1, hm1, hnews]
    exact q
  have hzs : zv.cells.size = k := by rw [hzc]; simpa using hz
  have hlt := (List.getElem?_eq_some_iff.1 hr).1
  -- what the new row's cells are
  have cellsOk : ∀ (old : List Value) (cur : Array Value), old.length = n * k → (∀ i, i < n → VRs C.w (C.ok X) (g i) ((old.drop (i * k)).take k)) → cur.toList.take ((n + m) * k) = old ++ news →
      (n + m) * k ≤ cur.size → ∀ (C' : Conf), Ev X C C' → ∀ b, C'.w.heap[b]? = some (.cells cur e (0, 0)) → RowRel C'.w (C'.ok X) C'.μ (some b) (.flat false k e (n + m) g') := by
    intro old cur ho hrel htk hsz C' ev b hh
    have hlen : (old ++ news).length = (n + m) * k := by rw [List.length_append, ho, slen, Nat.add_mul]
    refine ⟨cur, fun i => ((old ++ news).drop (i * k)).take k, hh, hsz, ?_, ?_, ?_⟩
    · intro i hi
      rw [List.length_take, List.length_drop, hlen]
      have : i * k + k ≤ (n + m) * k := by rw [← Nat.succ_mul]; exact Nat.mul_le_mul_right k hi
      omega
    · intro i hi
      show VRs _ _ (g' i) (((old ++ news).drop (i * k)).take k)
      by_cases hin : i < n
      · rw [h1 i hin]
        have e1 : i * k + k ≤ n * k := by rw [← Nat.succ_mul]; exact Nat.mul_le_mul_right k hin
        have : ((old ++ news).drop (i * k)).take k = (old.drop (i * k)).take k := by
          rw [List.drop_append_of_le_length (by rw [ho]; omega), List.take_append_of_le_length (by rw [List.length_drop, ho]; omega)]
        rw [this]
        exact (hrel i hin).mono ev.ok ev.same
      · obtain ⟨q, rfl⟩ : ∃ q, i = n + q := ⟨i - n, by omega⟩
        rw [h2 q (by omega)]
        have : ((old ++ news).drop ((n + q) * k)).take k = (news.drop (q * k)).take k := by
          rw [Nat.add_mul, List.drop_append, List.drop_of_length_le (by rw [ho]; omega), List.nil_append, ho, Nat.add_sub_cancel_left]
        rw [this]
        exact (srel q (by omega)).mono ev.ok ev.same
    · intro i j w hi hj
      have := cells_take hj
      rw [← htk] at this
      rw [List.getElem?_take] at this
      split at this
      · simpa using this
      · cases this
  have hown : ∀ (C' : Conf) (b c' : Nat) (cur : Array Value), C'.μ[C.rows.length]? = some (some b) → C'.w.heap[b]? = some (.cells cur e (0, 0)) → c' * k = cur.size → n + m ≤ c' → c' ≤ maxLen →
      AVR C'.w (C'.ok X) C'.μ (.own C.rows.length k 0 (n + m)) (.slice (some ⟨b, 0, none⟩) (n + m) c') := by
    intro C' b c' cur e1 e2 e3 e4 e5
    have := AVR.own (w := C'.w) (ok := C'.ok X) (μ := C'.μ) (off := 0) (k := k) (n := n + m) e1 e2 (by rw [Nat.zero_add]; exact e3) e4 e5
    rwa [Nat.zero_mul] at this
  -- a new array
  have fresh : ∀ (C1 : Conf), HRel X C1 → Ev X C C1 → C1.rows = C.rows.set id .gone → ∀ (old : List Value) (q : Nat), q < n + m → old.length = n * k → (∀ i, i < n → VRs C.w (C.ok X) (g i) ((old.drop (i * k)).take k)) →
      C1.w = C.w → (Builtin.append_ #[t, tu] ty #[v, .string s]).run X.P C.w = .ok (.slice (some ⟨C.w.heap.size, 0, none⟩) (n + m) (grownCap C.w (n + m) q e))
        (C.w.drew.alloc (.cells (old.toArray ++ news.toArray ++ Builtin.zeroCells zv.cells (grownCap C.w (n + m) q e - (n + m))) e)) →
      ∃ v' C', (Builtin.append_ #[t, tu] ty #[v, .string s]).run X.P C.w = .ok v' C'.w ∧ C'.rows = C.rows.set id .gone ++ [.flat false k e (n + m) g'] ∧ HRel X C' ∧ Ev X C C' ∧ AVR C'.w (C'.ok X) C'.μ (.own C.rows.length k 0 (n + m)) v' := by
    intro C1 hC1 ev1 hrows old q hq ho hrel hw hrun
    have hge := grownCap_ge C.w (n + m) q e
    have hcm : grownCap C.w (n + m) q e ≤ maxLen := grownCap_le_maxLen C.w (n + m) q e (by simp only [maxLen]; omega)
    let cur : Array Value := old.toArray ++ news.toArray ++ Builtin.zeroCells zv.cells (grownCap C.w (n + m) q e - (n + m))
    have hcs : cur.size = grownCap C.w (n + m) q e * k := by
      simp only [cur, Array.size_append, List.size_toArray, size_zeroCells, hzs, ho, slen, ← Nat.add_mul]
      congr 1
      omega
    have htk : cur.toList.take ((n + m) * k) = old ++ news := by
      have hlen : (old ++ news).length = (n + m) * k := by rw [List.length_append, ho, slen, Nat.add_mul]
      simp only [cur, Array.toList_append, List.append_assoc]
      rw [← List.append_assoc, ← hlen]
      exact List.take_left
    have hd := hC1.drew
    have ev2 := Ev.push hd (.cells cur e) (.flat false k e (n + m) g')
    have ev := (ev1.trans Ev.drew).trans ev2
    have hsize : C1.drew.w.heap.size = C.w.heap.size := by rw [Conf.drew, hw]; rfl
    refine ⟨.slice (some ⟨C.w.heap.size, 0, none⟩) (n + m) (grownCap C.w (n + m) q e), C1.drew.push (.cells cur e) (.flat false k e (n + m) g'), ?_, by simp [Conf.push, Conf.drew, hrows], HRel.push hd ?_, ev, ?_⟩
    · rw [hrun, Conf.push, Conf.drew, hw]
    · exact cellsOk old cur ho hrel htk (by rw [hcs]; exact Nat.mul_le_mul_right k hge) _ ev _ (heap_alloc_new _ _)
    · refine hown _ C.w.heap.size _ cur ?_ ?_ hcs.symm hge hcm
      · have : C1.μ.length = C.rows.length := by rw [hC1.len, hrows]; simp
        simp [Conf.push, ← this, hsize, Conf.drew]
        rw [hw]
      · rw [← hsize]
        exact heap_alloc_new _ _
  cases hv with
  | own0 hμ =>
    obtain ⟨hg1, hg2⟩ := virt_gone h hμ
    by_cases hm : m = 0
    · subst hm
      have hn : news = [] := List.eq_nil_of_length_eq_zero (by simpa using slen)
      subst hn
      have hrun : (Builtin.append_ #[t, tu] ty #[.slice none 0 0, .string s]).run X.P C.w = .ok (.slice none 0 0) C.w := run_append_nothing C.w t tu ty e i0 hu hi0 none 0 0 (Nat.le_refl _) _ hsrc
      have hvr : HRel X ((⟨C.μ, C.rows.set id .gone, C.w⟩ : Conf).virt (.flat false k e 0 g')) := HRel.virt hg1 rfl
      refine ⟨_, (⟨C.μ, C.rows.set id .gone, C.w⟩ : Conf).virt (.flat false k e 0 g'), hrun, rfl, hvr, hg2.trans (Ev.virt hg1 _), ?_⟩
      refine .own0 ?_
      simp [Conf.virt, ← h.len]
    · have hr2 := run_append_grow_src (P := X.P) C.w t tu ty e i0 zv hu hi0 hzv none 0 0 [] (by rw [run_firstCells_none]) (.string s) m news hsrc (by omega) (by omega) (growslice_fits (by omega) (by rw [hb0]; simpa using hb))
      refine fresh _ hg1 hg2 rfl [] 0 (by omega) (by simp) (fun i hi => by omega) rfl ?_
      simpa using hr2
  | own hμ hh hs hn hc =>
    rename_i b cap cur ty'
    simp only [Nat.zero_mul, Nat.zero_add] at hs fresh ⊢
    obtain ⟨cur', vs, e1, e2, e3, e4, e5⟩ := h.rel id _ _ hμ hr
    rw [hh] at e1
    injection e1 with e1
    injection e1 with e1 e1'
    subst e1
    have e1' := e1'.symm
    subst e1'
    obtain ⟨old, o1, o2, o3, o4⟩ := row_parts e3
    have hold : old = cur.toList.take (n * k) := by
      apply List.ext_getElem?
      intro j
      by_cases hj : j < n * k
      · have hi' : j / k < n := Nat.div_lt_of_lt_mul (by rwa [Nat.mul_comm] at hj)
        have hjj : j % k < (vs (j / k)).length := by rw [e3 _ hi']; exact Nat.mod_lt _ hk
        have key : j / k * k + j % k = j := by rw [Nat.mul_comm]; exact Nat.div_add_mod j k
        have a1 := o2 (j / k) (j % k) _ hi' (List.getElem?_eq_getElem hjj)
        have a2 := e5 (j / k) (j % k) _ hi' (List.getElem?_eq_getElem hjj)
        rw [key] at a1 a2
        rw [a1, List.getElem?_take_of_lt hj]
        simpa using a2.symm
      · rw [List.getElem?_eq_none (by omega), List.getElem?_eq_none (by simp; omega)]
    have hrel : ∀ i, i < n → VRs C.w (C.ok X) (g i) ((old.drop (i * k)).take k) := fun i hi => by rw [o3 i hi]; exact e4 i hi
    by_cases hm : m = 0
    · subst hm
      have hn0 : news = [] := List.eq_nil_of_length_eq_zero (by simpa using slen)
      subst hn0
      have hrun : (Builtin.append_ #[t, tu] ty #[.slice (some ⟨b, 0, none⟩) n cap, .string s]).run X.P C.w = .ok (.slice (some ⟨b, 0, none⟩) n cap) C.w := run_append_nothing C.w t tu ty e i0 hu hi0 _ n cap hn _ hsrc
      have tu : Turns X C id b (.flat false k e n g) (.flat false k e (n + 0) g') C.w := ⟨hμ, hr, rfl, rfl, rfl, ⟨rfl, Nat.le_refl _⟩, rfl, fun _ _ => rfl, fun _ _ k => ⟨_, k, rfl⟩, fun _ _ => rfl, fun _ _ => rfl⟩
      have ev1 := Ev.turn h tu
      have hC1 := HRel.turn h tu (.inl (by simp)) (cellsOk old cur o1 hrel (by simpa using hold.symm) (by simpa using e2) _ ev1 b hh)
      have hr1 : (C.turn id (.flat false k e (n + 0) g') C.w).rows[id]? = some (.flat false k e (n + 0) g') := by simp [Conf.turn, hlt]
      have hμ1 : (C.turn id (.flat false k e (n + 0) g') C.w).μ[id]? = some (some b) := hμ
      refine ⟨.slice (some ⟨b, 0, none⟩) n cap, (C.turn id (.flat false k e (n + 0) g') C.w).renew id (some b) (.flat false k e (n + 0) g'), hrun, ?_, rel_renew hC1 hμ1 hr1 rfl, ev1.trans (ev_renew hC1 hμ1 hr1), ?_⟩
      · simp [Conf.renew, Conf.turn]
      · refine hown _ b cap cur ?_ hh hs hn hc
        simp [Conf.renew, Conf.turn, ← h.len]
    · by_cases hroom : n + m ≤ cap
      · have hfit : n * i0.size + news.length ≤ cur.size := by
          rw [slen, ← hs, hs0, ← Nat.add_mul]
          exact Nat.mul_le_mul_right _ hroom
        have hrun := Lib.run_append_room_string (P := X.P) C.w t tu ty e i0 hu htu hi0 (by rw [hs0, hk1]) b n cap cur hh s (by omega) (by
          rw [hs0, hk1, slen, hk1] at hfit
          omega)
        rw [hs0] at hfit
        have hcur : (cur.toList.take n ++ Lib.strCells s ++ cur.toList.drop (n + s.size)).toArray = (cur.toList.take (n * k) ++ news ++ cur.toList.drop (n * k + news.length)).toArray := by
          rw [slen, hk1, hnews, hm1, Nat.mul_one, Nat.mul_one]
        rw [hcur, ← hm1] at hrun
        let cur2 : Array Value := (cur.toList.take (n * k) ++ news ++ cur.toList.drop (n * k + news.length)).toArray
        have hsz2 : cur2.size = cur.size := by
          simp only [cur2, List.size_toArray, List.length_append, List.length_take, List.length_drop, Array.length_toList]
          omega
        have tu : Turns X C id b (.flat false k e n g) (.flat false k e (n + m) g') (C.w.setRow b cur2) := setRow_turns h hμ hr rfl hh hsz2
        have ev1 := Ev.turn h tu
        have hh2 : (C.w.setRow b cur2).heap[b]? = some (.cells cur2 e (0, 0)) := setRow_heap _ _ _ _ _ _ hh
        have htk : cur2.toList.take ((n + m) * k) = old ++ news := by
          have hlen : (old ++ news).length = (n + m) * k := by rw [List.length_append, o1, slen, Nat.add_mul]
          simp only [cur2]
          rw [← hold, ← hlen]
          exact List.take_left
        have hC1 := HRel.turn h tu (.inl (by simp)) (cellsOk old cur2 o1 hrel htk (by rw [hsz2, ← hs]; exact Nat.mul_le_mul_right k hroom) _ ev1 b hh2)
        have hr1 : (C.turn id (.flat false k e (n + m) g') (C.w.setRow b cur2)).rows[id]? = some (.flat false k e (n + m) g') := by simp [Conf.turn, hlt]
        have hμ1 : (C.turn id (.flat false k e (n + m) g') (C.w.setRow b cur2)).μ[id]? = some (some b) := hμ
        refine ⟨.slice (some ⟨b, 0, none⟩) (n + m) cap, (C.turn id (.flat false k e (n + m) g') (C.w.setRow b cur2)).renew id (some b) (.flat false k e (n + m) g'), hrun, ?_, rel_renew hC1 hμ1 hr1 rfl, ev1.trans (ev_renew hC1 hμ1 hr1), ?_⟩
        · simp [Conf.renew, Conf.turn]
        · refine hown _ b cap cur2 ?_ hh2 (by rw [hsz2]; exact hs) hroom hc
          simp [Conf.renew, Conf.turn, ← h.len]
      · have hholds : ∀ (j : Nat) v, old[j]? = some v → C.w.cell? ((⟨b, 0, none⟩ : Addr).add j) = some v := by
          intro j v hj
          rw [add_none, Nat.zero_add, cell_of_row _ _ _ _ _ _ hh]
          rw [hold] at hj
          have := hj
          rw [List.getElem?_take] at this
          split at this
          · simpa using this
          · cases this
        have hrun := run_append_grow_src (P := X.P) C.w t tu ty e i0 zv hu hi0 hzv (some ⟨b, 0, none⟩) n cap old (run_firstCells_some C.w.drew i0.size n ⟨b, 0, none⟩ n cap old (by rw [hs0]; exact o1) (by simpa using hholds)) (.string s) m news hsrc (by omega) (by omega) (growslice_fits (by omega) (by rw [hb0]; exact hb))
        rw [show (old ++ news).toArray = old.toArray ++ news.toArray by simp] at hrun
        have tu := gone_turns h hμ hr rfl
        have ev1 := Ev.turn h tu
        have hC1 := HRel.turn h tu (.inr rfl) trivial
        exact fresh _ hC1 ev1 rfl old cap (by omega) o1 hrel rfl hrun
end

/-- A string's bytes. -/
def bytesL (s : ByteArray) : List Int := s.data.toList.map fun b => (b.toNat : Int)
theorem bytesL_length (s : ByteArray) : (bytesL s).length = s.size := by
  unfold bytesL
  rw [List.length_map, Array.length_toList]
  rfl

section
variable {X : Ctx} {T : Tab} {f : FuncId} {k k' : List Item} {Q : Frame → Frame → Conf → Prop} {st st' : St}
def appSAt (T : Tab) (st : St) (k : List Item) : Option (Nat × Nat × ByteArray × TypeId × Option Tmp × List Item) :=
  match topOp st k with
  | some (o, k') =>
    match o.op with
    | .call c =>
      match c.callee, c.args.toList, c.argTypes.toList with
      | .builtin .append, [s, x], [t, t'] =>
        match valOf st.tm s, valOf st.tm x with
        | some (.own id 1 0 n), some (.d (.v (.string b))) => bif T.strs.contains t' then some (id, n, b, t, o.dst, k') else none
        | _, _ => none
      | _, _, _ => none
    | _ => none
  | none => none
theorem ak_appendS0 (hT : TabOk X.P T) {id by' : Nat} {t e : TypeId} {z : List Value} {dst : Option Tmp} (xs : List Int) (s : ByteArray)
    (e1 : appSAt T st k = some (id, xs.length, s, t, dst, k')) (hr : st.rows[id]? = some (.flat false 1 e xs.length (vec (eI .u8) 0 xs))) (ht : T.slices.lookup t = some e) (hi : T.info.lookup e = some (1, by', z))
    (hz : Nat.beq z.length 1 = true) (hb : (xs.length + s.size) * by' ≤ 140737488355328) (hlim : xs.length + s.size ≤ 9223372036854775807)
    (hput : St.put { st with rows := st.rows.set id .gone ++ [.flat false 1 e (xs ++ bytesL s).length (vec (eI .u8) 0 (xs ++ bytesL s))] } dst (.own st.rows.length 1 0 (xs ++ bytesL s).length) = some st') (h : AK X f k' Q st') : AK X f k Q st := by
  unfold appSAt at e1
  split at e1
  · rename_i o k3 htop
    split at e1
    · rename_i c hop
      split at e1
      · rename_i sx x0 t0 t1 hcal hargs htys
        split at e1
        · rename_i id0 n0 b0 hs hx
          cases hb2 : T.strs.contains t1 with
          | false => rw [hb2] at e1; cases e1
          | true =>
            rw [hb2] at e1
            simp only [cond_true, Option.some.injEq, Prod.mk.injEq] at e1
            obtain ⟨rfl, rfl, rfl, rfl, rfl, rfl⟩ := e1
            refine ak_top htop h fun a C hC => ?_
            have hrows := hC.rows
            rw [← hrows] at hr
            have hlen : (xs ++ bytesL b0).length = xs.length + b0.size := by rw [List.length_append, bytesL_length]
            have hsl : (Lib.strCells b0).length = b0.size := Lib.strCells_length b0
            have hgs : ∀ i, i < b0.size → vec (eI .u8) 0 (xs ++ bytesL b0) (xs.length + i) = eI .u8 ((bytesL b0).getD i 0) := fun i hi => by
              unfold vec
              rw [List.getD_eq_getElem?_getD, List.getElem?_append_right (by omega), Nat.add_sub_cancel_left, ← List.getD_eq_getElem?_getD]
            obtain ⟨v', C', q1, q2, q3, q4, q5⟩ := append_confS hT hC.rel (ty := o.type) (k := 1) (m := b0.size) (g' := vec (eI .u8) 0 (xs ++ bytesL b0)) (gs := fun i => eI .u8 ((bytesL b0).getD i 0)) b0 rfl rfl rfl (hT.str hb2) (by rw [hsl, Nat.mul_one])
              (fun i hi => by
                have : ((Lib.strCells b0).drop (i * 1)).take 1 = [.int .u8 ((bytesL b0).getD i 0)] := by
                  rw [Nat.mul_one, List.drop_eq_getElem_cons (by omega), List.take_succ_cons, List.take_zero]
                  have hm : Lib.strCells b0 = (bytesL b0).map (Value.int .u8) := by
                    unfold Lib.strCells bytesL
                    rw [List.map_map]
                    rfl
                  have hl2 : i < (bytesL b0).length := by rw [bytesL_length]; exact hi
                  have hv : (Lib.strCells b0)[i]'(by omega) = Value.int .u8 ((bytesL b0)[i]) := by
                    have h1 : (Lib.strCells b0)[i]? = some (Value.int .u8 ((bytesL b0)[i])) := by
                      rw [hm, List.getElem?_map, List.getElem?_eq_getElem hl2]
                      rfl
                    rw [List.getElem?_eq_getElem (by omega)] at h1
                    injection h1
                  rw [hv, List.getD_eq_getElem?_getD, List.getElem?_eq_getElem hl2]
                  rfl
                rw [this]
                exact .cons rfl (.v rfl) .nil) (Lib.strCells_oneCell b0) hr (hC.val _ _ hs) ht hi (Nat.eq_of_beq_eq_true hz) (by decide) hb hlim (fun i hi => by
                unfold vec
                rw [List.getD_eq_getElem?_getD, List.getElem?_append_left hi, ← List.getD_eq_getElem?_getD]) hgs
            refine ⟨v', C', _, ?_, hC.moved q4 q3, .own C.rows.length 1 0 (xs.length + b0.size), ?_, q5⟩
            · have ha : c.args = #[sx, x0] := by rw [← Array.toArray_toList (xs := c.args), hargs]
              have hty : c.argTypes = #[t0, t1] := by rw [← Array.toArray_toList (xs := c.argTypes), htys]
              have hv := (hC.val _ _ hx).v_inv
              simp only [execOp, hop, resolve, hcal, ha, hty, Sem.run_bind, Sem.run_pure, Result.andThen_ok, invoke, builtin, List.map_toArray, List.map_cons, List.map_nil, hv]
              rw [q1]
              rfl
            · rw [q2, hrows, ← hlen]
              exact hput
        · cases e1
      · cases e1
    · cases e1
  · cases e1
theorem ak_appendS (hT : TabOk X.P T) {id by' : Nat} {t e : TypeId} {z : List Value} {dst : Option Tmp} (xs : List Int) (s : ByteArray) (S : List Nat)
    (e1 : appSAt T st k = some (id, xs.length, s, t, dst, k')) (hr : st.rows[id]? = some (.flat false 1 e xs.length (vec (eI .u8) 0 xs))) (ht : T.slices.lookup t = some e) (hi : T.info.lookup e = some (1, by', z))
    (hz : Nat.beq z.length 1 = true) (hb : (xs.length + s.size) * by' ≤ 140737488355328) (hlim : xs.length + s.size ≤ 9223372036854775807)
    (hput : (St.put { st with rows := st.rows.set id .gone ++ [.flat false 1 e (xs ++ bytesL s).length (vec (eI .u8) 0 (xs ++ bytesL s))] } dst (.own st.rows.length 1 0 (xs ++ bytesL s).length)).map (St.only S) = some st') (h : AK X f k' Q st') : AK X f k Q st := by
  obtain ⟨s0, h1, rfl⟩ := Option.map_eq_some_iff.1 hput
  exact ak_appendS0 hT xs s e1 hr ht hi hz hb hlim h1 (ak_only S h)
end
end Go.Sy
