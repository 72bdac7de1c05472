/- A string's bytes, appended. -/
import Derived.Test.YtboaahlhgekbbaaSyRA
import Derived.Test.YtboaahlhgekbbaaSyO
import Derived.Test.YtboaahlhgekbbaaSyX
import Derived.Lib.Builder
import Derived.Shelf.Strings.Builder1
set_option linter.unusedVariables false
set_option linter.unusedSimpArgs false
namespace Go.Sy

section
variable {X : Ctx} {C : Conf} {T : Tab}

set_option maxHeartbeats 1000000 in
theorem append_confS (hT : TabOk X.P T) (h : HRel X C) {id k m n by' : Nat} {t tu e ty : TypeId} {z : List Value} {g gs g' : Nat → List DV} {v : Value} {news : List Value} (s : ByteArray) (hk1 : k = 1) (hm1 : m = s.size) (hnews : news = Lib.strCells s) (htu : X.P.underlying tu = some .string)
    (slen : news.length = m * k) (srel : ∀ i, i < m → VRs C.w (C.ok X) (gs i) ((news.drop (i * k)).take k)) (sone : ∀ v ∈ news, v.oneCell' = true)
    (hr : C.rows[id]? = some (.flat false k e n g)) (hv : AVR C.w (C.ok X) C.μ (.own id k 0 n) v) (ht : T.slices.lookup t = some e) (hi : T.info.lookup e = some (k, by', z)) (hz : z.length = k) (hk : 0 < k)
    (hb : (n + m) * by' ≤ 140737488355328) (hlim : n + m ≤ 9223372036854775807) (h1 : ∀ i, i < n → g' i = g i) (h2 : ∀ i, i < m → g' (n + i) = gs i) :
    ∃ v' C', (Builtin.append_ #[t, tu] ty #[v, .string s]).run X.P C.w = .ok v' C'.w ∧ C'.rows = C.rows.set id .gone ++ [.flat false k e (n + m) g'] ∧ HRel X C' ∧ Ev X C C' ∧ AVR C'.w (C'.ok X) C'.μ (.own C.rows.length k 0 (n + m)) v' := by
  obtain ⟨i0, hi0, hs0, hb0, hz0⟩ := hT.infoAt hi
  obtain ⟨zv, hzv, hzc⟩ := Option.map_eq_some_iff.1 hz0
  have hu := hT.slice ht
  have hsrc : Src X.P i0.size tu (.string s) m news C.w := by
    have q := Src.ofString (P := X.P) C.w htu s
    rw [hs0, hk1, hm1, hnews]
    exact q
  have hzs : zv.cells.size = k := by rw [hzc]; simpa using hz
  have hlt := (List.getElem?_eq_some_iff.1 hr).1
  -- what the new row's cells are
  have cellsOk : ∀ (old : List Value) (cur : Array Value), old.length = n * k → (∀ i, i < n → VRs C.w (C.ok X) (g i) ((old.drop (i * k)).take k)) → cur.toList.take ((n + m) * k) = old ++ news →
      (n + m) * k ≤ cur.size → ∀ (C' : Conf), Ev X C C' → ∀ b, C'.w.heap[b]? = some (.cells cur e (0, 0)) → RowRel C'.w (C'.ok X) C'.μ (some b) (.flat false k e (n + m) g') := by
    intro old cur ho hrel htk hsz C' ev b hh
    have hlen : (old ++ news).length = (n + m) * k := by rw [List.length_append, ho, slen, Nat.add_mul]
    refine ⟨cur, fun i => ((old ++ news).drop (i * k)).take k, hh, hsz, ?_, ?_, ?_⟩
    · intro i hi
      rw [List.length_take, List.length_drop, hlen]
      have : i * k + k ≤ (n + m) * k := by rw [← Nat.succ_mul]; exact Nat.mul_le_mul_right k hi
      omega
    · intro i hi
      show VRs _ _ (g' i) (((old ++ news).drop (i * k)).take k)
      by_cases hin : i < n
      · rw [h1 i hin]
        have e1 : i * k + k ≤ n * k := by rw [← Nat.succ_mul]; exact Nat.mul_le_mul_right k hin
        have : ((old ++ news).drop (i * k)).take k = (old.drop (i * k)).take k := by
          rw [List.drop_append_of_le_length (by rw [ho]; omega), List.take_append_of_le_length (by rw [List.length_drop, ho]; omega)]
        rw [this]
        exact (hrel i hin).mono ev.ok ev.same
      · obtain ⟨q, rfl⟩ : ∃ q, i = n + q := ⟨i - n, by omega⟩
        rw [h2 q (by omega)]
        have : ((old ++ news).drop ((n + q) * k)).take k = (news.drop (q * k)).take k := by
          rw [Nat.add_mul, List.drop_append, List.drop_of_length_le (by rw [ho]; omega), List.nil_append, ho, Nat.add_sub_cancel_left]
        rw [this]
        exact (srel q (by omega)).mono ev.ok ev.same
    · intro i j w hi hj
      have := cells_take hj
      rw [← htk] at this
      rw [List.getElem?_take] at this
      split at this
      · simpa using this
      · cases this
  have hown : ∀ (C' : Conf) (b c' : Nat) (cur : Array Value), C'.μ[C.rows.length]? = some (some b) → C'.w.heap[b]? = some (.cells cur e (0, 0)) → c' * k = cur.size → n + m ≤ c' → c' ≤ maxLen →
      AVR C'.w (C'.ok X) C'.μ (.own C.rows.length k 0 (n + m)) (.slice (some ⟨b, 0, none⟩) (n + m) c') := by
    intro C' b c' cur e1 e2 e3 e4 e5
    have := AVR.own (w := C'.w) (ok := C'.ok X) (μ := C'.μ) (off := 0) (k := k) (n := n + m) e1 e2 (by rw [Nat.zero_add]; exact e3) e4 e5
    rwa [Nat.zero_mul] at this
  -- a new array
  have fresh : ∀ (C1 : Conf), HRel X C1 → Ev X C C1 → C1.rows = C.rows.set id .gone → ∀ (old : List Value) (q : Nat), q < n + m → old.length = n * k → (∀ i, i < n → VRs C.w (C.ok X) (g i) ((old.drop (i * k)).take k)) →
      C1.w = C.w → (Builtin.append_ #[t, tu] ty #[v, .string s]).run X.P C.w = .ok (.slice (some ⟨C.w.heap.size, 0, none⟩) (n + m) (grownCap C.w (n + m) q e))
        (C.w.drew.alloc (.cells (old.toArray ++ news.toArray ++ Builtin.zeroCells zv.cells (grownCap C.w (n + m) q e - (n + m))) e)) →
      ∃ v' C', (Builtin.append_ #[t, tu] ty #[v, .string s]).run X.P C.w = .ok v' C'.w ∧ C'.rows = C.rows.set id .gone ++ [.flat false k e (n + m) g'] ∧ HRel X C' ∧ Ev X C C' ∧ AVR C'.w (C'.ok X) C'.μ (.own C.rows.length k 0 (n + m)) v' := by
    intro C1 hC1 ev1 hrows old q hq ho hrel hw hrun
    have hge := grownCap_ge C.w (n + m) q e
    have hcm : grownCap C.w (n + m) q e ≤ maxLen := grownCap_le_maxLen C.w (n + m) q e (by simp only [maxLen]; omega)
    let cur : Array Value := old.toArray ++ news.toArray ++ Builtin.zeroCells zv.cells (grownCap C.w (n + m) q e - (n + m))
    have hcs : cur.size = grownCap C.w (n + m) q e * k := by
      simp only [cur, Array.size_append, List.size_toArray, size_zeroCells, hzs, ho, slen, ← Nat.add_mul]
      congr 1
      omega
    have htk : cur.toList.take ((n + m) * k) = old ++ news := by
      have hlen : (old ++ news).length = (n + m) * k := by rw [List.length_append, ho, slen, Nat.add_mul]
      simp only [cur, Array.toList_append, List.append_assoc]
      rw [← List.append_assoc, ← hlen]
      exact List.take_left
    have hd := hC1.drew
    have ev2 := Ev.push hd (.cells cur e) (.flat false k e (n + m) g')
    have ev := (ev1.trans Ev.drew).trans ev2
    have hsize : C1.drew.w.heap.size = C.w.heap.size := by rw [Conf.drew, hw]; rfl
    refine ⟨.slice (some ⟨C.w.heap.size, 0, none⟩) (n + m) (grownCap C.w (n + m) q e), C1.drew.push (.cells cur e) (.flat false k e (n + m) g'), ?_, by simp [Conf.push, Conf.drew, hrows], HRel.push hd ?_, ev, ?_⟩
    · rw [hrun, Conf.push, Conf.drew, hw]
    · exact cellsOk old cur ho hrel htk (by rw [hcs]; exact Nat.mul_le_mul_right k hge) _ ev _ (heap_alloc_new _ _)
    · refine hown _ C.w.heap.size _ cur ?_ ?_ hcs.symm hge hcm
      · have : C1.μ.length = C.rows.length := by rw [hC1.len, hrows]; simp
        simp [Conf.push, ← this, hsize, Conf.drew]
        rw [hw]
      · rw [← hsize]
        exact heap_alloc_new _ _
  cases hv with
  | own0 hμ =>
    obtain ⟨hg1, hg2⟩ := virt_gone h hμ
    by_cases hm : m = 0
    · subst hm
      have hn : news = [] := List.eq_nil_of_length_eq_zero (by simpa using slen)
      subst hn
      have hrun : (Builtin.append_ #[t, tu] ty #[.slice none 0 0, .string s]).run X.P C.w = .ok (.slice none 0 0) C.w := run_append_nothing C.w t tu ty e i0 hu hi0 none 0 0 (Nat.le_refl _) _ hsrc
      have hvr : HRel X ((⟨C.μ, C.rows.set id .gone, C.w⟩ : Conf).virt (.flat false k e 0 g')) := HRel.virt hg1 rfl
      refine ⟨_, (⟨C.μ, C.rows.set id .gone, C.w⟩ : Conf).virt (.flat false k e 0 g'), hrun, rfl, hvr, hg2.trans (Ev.virt hg1 _), ?_⟩
      refine .own0 ?_
      simp [Conf.virt, ← h.len]
    · have hr2 := run_append_grow_src (P := X.P) C.w t tu ty e i0 zv hu hi0 hzv none 0 0 [] (by rw [run_firstCells_none]) (.string s) m news hsrc (by omega) (by omega) (growslice_fits (by omega) (by rw [hb0]; simpa using hb))
      refine fresh _ hg1 hg2 rfl [] 0 (by omega) (by simp) (fun i hi => by omega) rfl ?_
      simpa using hr2
  | own hμ hh hs hn hc =>
    rename_i b cap cur ty'
    simp only [Nat.zero_mul, Nat.zero_add] at hs fresh ⊢
    obtain ⟨cur', vs, e1, e2, e3, e4, e5⟩ := h.rel id _ _ hμ hr
    rw [hh] at e1
    injection e1 with e1
    injection e1 with e1 e1'
    subst e1
    have e1' := e1'.symm
    subst e1'
    obtain ⟨old, o1, o2, o3, o4⟩ := row_parts e3
    have hold : old = cur.toList.take (n * k) := by
      apply List.ext_getElem?
      intro j
      by_cases hj : j < n * k
      · have hi' : j / k < n := Nat.div_lt_of_lt_mul (by rwa [Nat.mul_comm] at hj)
        have hjj : j % k < (vs (j / k)).length := by rw [e3 _ hi']; exact Nat.mod_lt _ hk
        have key : j / k * k + j % k = j := by rw [Nat.mul_comm]; exact Nat.div_add_mod j k
        have a1 := o2 (j / k) (j % k) _ hi' (List.getElem?_eq_getElem hjj)
        have a2 := e5 (j / k) (j % k) _ hi' (List.getElem?_eq_getElem hjj)
        rw [key] at a1 a2
        rw [a1, List.getElem?_take_of_lt hj]
        simpa using a2.symm
      · rw [List.getElem?_eq_none (by omega), List.getElem?_eq_none (by simp; omega)]
    have hrel : ∀ i, i < n → VRs C.w (C.ok X) (g i) ((old.drop (i * k)).take k) := fun i hi => by rw [o3 i hi]; exact e4 i hi
    by_cases hm : m = 0
    · subst hm
      have hn0 : news = [] := List.eq_nil_of_length_eq_zero (by simpa using slen)
      subst hn0
      have hrun : (Builtin.append_ #[t, tu] ty #[.slice (some ⟨b, 0, none⟩) n cap, .string s]).run X.P C.w = .ok (.slice (some ⟨b, 0, none⟩) n cap) C.w := run_append_nothing C.w t tu ty e i0 hu hi0 _ n cap hn _ hsrc
      have tu : Turns X C id b (.flat false k e n g) (.flat false k e (n + 0) g') C.w := ⟨hμ, hr, rfl, rfl, rfl, ⟨rfl, Nat.le_refl _⟩, rfl, fun _ _ => rfl, fun _ _ k => ⟨_, k, rfl⟩, fun _ _ => rfl, fun _ _ => rfl⟩
      have ev1 := Ev.turn h tu
      have hC1 := HRel.turn h tu (.inl (by simp)) (cellsOk old cur o1 hrel (by simpa using hold.symm) (by simpa using e2) _ ev1 b hh)
      have hr1 : (C.turn id (.flat false k e (n + 0) g') C.w).rows[id]? = some (.flat false k e (n + 0) g') := by simp [Conf.turn, hlt]
      have hμ1 : (C.turn id (.flat false k e (n + 0) g') C.w).μ[id]? = some (some b) := hμ
      refine ⟨.slice (some ⟨b, 0, none⟩) n cap, (C.turn id (.flat false k e (n + 0) g') C.w).renew id (some b) (.flat false k e (n + 0) g'), hrun, ?_, rel_renew hC1 hμ1 hr1 rfl, ev1.trans (ev_renew hC1 hμ1 hr1), ?_⟩
      · simp [Conf.renew, Conf.turn]
      · refine hown _ b cap cur ?_ hh hs hn hc
        simp [Conf.renew, Conf.turn, ← h.len]
    · by_cases hroom : n + m ≤ cap
      · have hfit : n * i0.size + news.length ≤ cur.size := by
          rw [slen, ← hs, hs0, ← Nat.add_mul]
          exact Nat.mul_le_mul_right _ hroom
        have hrun := Lib.run_append_room_string (P := X.P) C.w t tu ty e i0 hu htu hi0 (by rw [hs0, hk1]) b n cap cur hh s (by omega) (by
          rw [hs0, hk1, slen, hk1] at hfit
          omega)
        rw [hs0] at hfit
        have hcur : (cur.toList.take n ++ Lib.strCells s ++ cur.toList.drop (n + s.size)).toArray = (cur.toList.take (n * k) ++ news ++ cur.toList.drop (n * k + news.length)).toArray := by
          rw [slen, hk1, hnews, hm1, Nat.mul_one, Nat.mul_one]
        rw [hcur, ← hm1] at hrun
        let cur2 : Array Value := (cur.toList.take (n * k) ++ news ++ cur.toList.drop (n * k + news.length)).toArray
        have hsz2 : cur2.size = cur.size := by
          simp only [cur2, List.size_toArray, List.length_append, List.length_take, List.length_drop, Array.length_toList]
          omega
        have tu : Turns X C id b (.flat false k e n g) (.flat false k e (n + m) g') (C.w.setRow b cur2) := setRow_turns h hμ hr rfl hh hsz2
        have ev1 := Ev.turn h tu
        have hh2 : (C.w.setRow b cur2).heap[b]? = some (.cells cur2 e (0, 0)) := setRow_heap _ _ _ _ _ _ hh
        have htk : cur2.toList.take ((n + m) * k) = old ++ news := by
          have hlen : (old ++ news).length = (n + m) * k := by rw [List.length_append, o1, slen, Nat.add_mul]
          simp only [cur2]
          rw [← hold, ← hlen]
          exact List.take_left
        have hC1 := HRel.turn h tu (.inl (by simp)) (cellsOk old cur2 o1 hrel htk (by rw [hsz2, ← hs]; exact Nat.mul_le_mul_right k hroom) _ ev1 b hh2)
        have hr1 : (C.turn id (.flat false k e (n + m) g') (C.w.setRow b cur2)).rows[id]? = some (.flat false k e (n + m) g') := by simp [Conf.turn, hlt]
        have hμ1 : (C.turn id (.flat false k e (n + m) g') (C.w.setRow b cur2)).μ[id]? = some (some b) := hμ
        refine ⟨.slice (some ⟨b, 0, none⟩) (n + m) cap, (C.turn id (.flat false k e (n + m) g') (C.w.setRow b cur2)).renew id (some b) (.flat false k e (n + m) g'), hrun, ?_, rel_renew hC1 hμ1 hr1 rfl, ev1.trans (ev_renew hC1 hμ1 hr1), ?_⟩
        · simp [Conf.renew, Conf.turn]
        · refine hown _ b cap cur2 ?_ hh2 (by rw [hsz2]; exact hs) hroom hc
          simp [Conf.renew, Conf.turn, ← h.len]
      · have hholds : ∀ (j : Nat) v, old[j]? = some v → C.w.cell? ((⟨b, 0, none⟩ : Addr).add j) = some v := by
          intro j v hj
          rw [add_none, Nat.zero_add, cell_of_row _ _ _ _ _ _ hh]
          rw [hold] at hj
          have := hj
          rw [List.getElem?_take] at this
          split at this
          · simpa using this
          · cases this
        have hrun := run_append_grow_src (P := X.P) C.w t tu ty e i0 zv hu hi0 hzv (some ⟨b, 0, none⟩) n cap old (run_firstCells_some C.w.drew i0.size n ⟨b, 0, none⟩ n cap old (by rw [hs0]; exact o1) (by simpa using hholds)) (.string s) m news hsrc (by omega) (by omega) (growslice_fits (by omega) (by rw [hb0]; exact hb))
        rw [show (old ++ news).toArray = old.toArray ++ news.toArray by simp] at hrun
        have tu := gone_turns h hμ hr rfl
        have ev1 := Ev.turn h tu
        have hC1 := HRel.turn h tu (.inr rfl) trivial
        exact fresh _ hC1 ev1 rfl old cap (by omega) o1 hrel rfl hrun
end

/-- A string's bytes. -/
def bytesL (s : ByteArray) : List Int := s.data.toList.map fun b => (b.toNat : Int)
theorem bytesL_length (s : ByteArray) : (bytesL s).length = s.size := by
  unfold bytesL
  rw [List.length_map, Array.length_toList]
  rfl

section
variable {X : Ctx} {T : Tab} {f : FuncId} {k k' : List Item} {Q : Frame → Frame → Conf → Prop} {st st' : St}
def appSAt (T : Tab) (st : St) (k : List Item) : Option (Nat × Nat × ByteArray × TypeId × Option Tmp × List Item) :=
  match topOp st k with
  | some (o, k') =>
    match o.op with
    | .call c =>
      match c.callee, c.args.toList, c.argTypes.toList with
      | .builtin .append, [s, x], [t, t'] =>
        match valOf st.tm s, valOf st.tm x with
        | some (.own id 1 0 n), some (.d (.v (.string b))) => bif T.strs.contains t' then some (id, n, b, t, o.dst, k') else none
        | _, _ => none
      | _, _, _ => none
    | _ => none
  | none => none
theorem ak_appendS0 (hT : TabOk X.P T) {id by' : Nat} {t e : TypeId} {z : List Value} {dst : Option Tmp} (xs : List Int) (s : ByteArray)
    (e1 : appSAt T st k = some (id, xs.length, s, t, dst, k')) (hr : st.rows[id]? = some (.flat false 1 e xs.length (vec (eI .u8) 0 xs))) (ht : T.slices.lookup t = some e) (hi : T.info.lookup e = some (1, by', z))
    (hz : Nat.beq z.length 1 = true) (hb : (xs.length + s.size) * by' ≤ 140737488355328) (hlim : xs.length + s.size ≤ 9223372036854775807)
    (hput : St.put { st with rows := st.rows.set id .gone ++ [.flat false 1 e (xs ++ bytesL s).length (vec (eI .u8) 0 (xs ++ bytesL s))] } dst (.own st.rows.length 1 0 (xs ++ bytesL s).length) = some st') (h : AK X f k' Q st') : AK X f k Q st := by
  unfold appSAt at e1
  split at e1
  · rename_i o k3 htop
    split at e1
    · rename_i c hop
      split at e1
      · rename_i sx x0 t0 t1 hcal hargs htys
        split at e1
        · rename_i id0 n0 b0 hs hx
          cases hb2 : T.strs.contains t1 with
          | false => rw [hb2] at e1; cases e1
          | true =>
            rw [hb2] at e1
            simp only [cond_true, Option.some.injEq, Prod.mk.injEq] at e1
            obtain ⟨rfl, rfl, rfl, rfl, rfl, rfl⟩ := e1
            refine ak_top htop h fun a C hC => ?_
            have hrows := hC.rows
            rw [← hrows] at hr
            have hlen : (xs ++ bytesL b0).length = xs.length + b0.size := by rw [List.length_append, bytesL_length]
            have hsl : (Lib.strCells b0).length = b0.size := Lib.strCells_length b0
            have hgs : ∀ i, i < b0.size → vec (eI .u8) 0 (xs ++ bytesL b0) (xs.length + i) = eI .u8 ((bytesL b0).getD i 0) := fun i hi => by
              unfold vec
              rw [List.getD_eq_getElem?_getD, List.getElem?_append_right (by omega), Nat.add_sub_cancel_left, ← List.getD_eq_getElem?_getD]
            obtain ⟨v', C', q1, q2, q3, q4, q5⟩ := append_confS hT hC.rel (ty := o.type) (k := 1) (m := b0.size) (g' := vec (eI .u8) 0 (xs ++ bytesL b0)) (gs := fun i => eI .u8 ((bytesL b0).getD i 0)) b0 rfl rfl rfl (hT.str hb2) (by rw [hsl, Nat.mul_one])
              (fun i hi => by
                have : ((Lib.strCells b0).drop (i * 1)).take 1 = [.int .u8 ((bytesL b0).getD i 0)] := by
                  rw [Nat.mul_one, List.drop_eq_getElem_cons (by omega), List.take_succ_cons, List.take_zero]
                  have hm : Lib.strCells b0 = (bytesL b0).map (Value.int .u8) := by
                    unfold Lib.strCells bytesL
                    rw [List.map_map]
                    rfl
                  have hl2 : i < (bytesL b0).length := by rw [bytesL_length]; exact hi
                  have hv : (Lib.strCells b0)[i]'(by omega) = Value.int .u8 ((bytesL b0)[i]) := by
                    have h1 : (Lib.strCells b0)[i]? = some (Value.int .u8 ((bytesL b0)[i])) := by
                      rw [hm, List.getElem?_map, List.getElem?_eq_getElem hl2]
                      rfl
                    rw [List.getElem?_eq_getElem (by omega)] at h1
                    injection h1
                  rw [hv, List.getD_eq_getElem?_getD, List.getElem?_eq_getElem hl2]
                  rfl
                rw [this]
                exact .cons rfl (.v rfl) .nil) (Lib.strCells_oneCell b0) hr (hC.val _ _ hs) ht hi (Nat.eq_of_beq_eq_true hz) (by decide) hb hlim (fun i hi => by
                unfold vec
                rw [List.getD_eq_getElem?_getD, List.getElem?_append_left hi, ← List.getD_eq_getElem?_getD]) hgs
            refine ⟨v', C', _, ?_, hC.moved q4 q3, .own C.rows.length 1 0 (xs.length + b0.size), ?_, q5⟩
            · have ha : c.args = #[sx, x0] := by rw [← Array.toArray_toList (xs := c.args), hargs]
              have hty : c.argTypes = #[t0, t1] := by rw [← Array.toArray_toList (xs := c.argTypes), htys]
              have hv := (hC.val _ _ hx).v_inv
              simp only [execOp, hop, resolve, hcal, ha, hty, Sem.run_bind, Sem.run_pure, Result.andThen_ok, invoke, builtin, List.map_toArray, List.map_cons, List.map_nil, hv]
              rw [q1]
              rfl
            · rw [q2, hrows, ← hlen]
              exact hput
        · cases e1
      · cases e1
    · cases e1
  · cases e1
theorem ak_appendS (hT : TabOk X.P T) {id by' : Nat} {t e : TypeId} {z : List Value} {dst : Option Tmp} (xs : List Int) (s : ByteArray) (S : List Nat)
    (e1 : appSAt T st k = some (id, xs.length, s, t, dst, k')) (hr : st.rows[id]? = some (.flat false 1 e xs.length (vec (eI .u8) 0 xs))) (ht : T.slices.lookup t = some e) (hi : T.info.lookup e = some (1, by', z))
    (hz : Nat.beq z.length 1 = true) (hb : (xs.length + s.size) * by' ≤ 140737488355328) (hlim : xs.length + s.size ≤ 9223372036854775807)
    (hput : (St.put { st with rows := st.rows.set id .gone ++ [.flat false 1 e (xs ++ bytesL s).length (vec (eI .u8) 0 (xs ++ bytesL s))] } dst (.own st.rows.length 1 0 (xs ++ bytesL s).length)).map (St.only S) = some st') (h : AK X f k' Q st') : AK X f k Q st := by
  obtain ⟨s0, h1, rfl⟩ := Option.map_eq_some_iff.1 hput
  exact ak_appendS0 hT xs s e1 hr ht hi hz hb hlim h1 (ak_only S h)
end
end Go.Sy
set_option linter.unusedVariables false
set_option linter.unusedSimpArgs false
namespace Go.Sy

/-- A call behind which only what it hands back is remembered. -/
theorem ak_callRaw {X : Ctx} {f g : FuncId} {k k' : List Item} {Q : Frame → Frame → Conf → Prop} {st st' : St} {avs : List AV} {dst : Option Tmp} {rows' : List Row} {ret : AV}
    (e : callAt st k = some (g, avs, dst, k')) (he : Enters X.P g)
    (H : ∀ (C : Conf) (vs : List Value), HRel X C → C.rows = st.rows → AVRl C.w (C.ok X) C.μ avs vs → Calls X.P g vs.toArray C.w fun e w' => ∃ v C', e = .returned v ∧ C'.w = w' ∧ HRel X C' ∧ C'.rows = rows' ∧ AVR C'.w (C'.ok X) C'.μ ret v)
    (hput : St.put ⟨st.nt, [], rows'⟩ dst ret = some st') (h : AK X f k' Q st') : AK X f k Q st := by
  unfold callAt at e
  split at e
  · rename_i ops i rest k0
    split at e
    · rename_i o ho
      split at e
      · rename_i c hc
        split at e
        · rename_i gv hg
          refine ak_step h fun a C hC b cs _ => ?_
          have hrun : ∃ vs, (execOp a.eval o).run X.P C.w = .ok (.enter g vs.toArray) C.w ∧ AVRl C.w (C.ok X) C.μ avs vs ∧ guardOf st.tm ops o = some true ∧ o.dst = dst ∧ k' = .inRegion ops rest :: k0 := by
            have key : ∀ (fid : FuncId) (caps : Array Value), a.eval gv = .func (.func fid) #[] caps → fid = g → (execOp a.eval o).run X.P C.w = .ok (.enter g (c.args.map a.eval ++ caps)) C.w := by
              rintro fid caps hv rfl
              simp only [execOp, hc, resolve, hg, hv, Deferred.ofValue, Sem.run_bind, Sem.run_pure, Result.andThen_ok, invoke]
              rw [he]
              simp
            split at e
            · rename_i fid caps xs h1 h2 h3
              injection e with e; injection e with e1 e; injection e with e2 e; injection e with e3 e4
              subst e1; subst e2
              have hv := hC.val _ _ h2
              obtain ⟨cs, hcs, hr⟩ : ∃ cs, a.eval gv = .func (.func fid) #[] cs.toArray ∧ AVRs C.w (C.ok X) C.μ caps cs := by
                generalize a.eval gv = u at hv
                cases hv with
                | fn hv => exact ⟨_, rfl, hv⟩
              refine ⟨c.args.toList.map a.eval ++ cs, ?_, (mapVal_rel hC.val h3).append hr.toL, h1, e3, e4.symm⟩
              rw [key fid cs.toArray hcs rfl]
              congr 2
              exact Array.ext' (by simp)
            · rename_i fid caps xs h1 h2 h3
              injection e with e; injection e with e1 e; injection e with e2 e; injection e with e3 e4
              subst e1; subst e2
              have hv := hC.val _ _ h2
              obtain ⟨cs, hcs, hr⟩ : ∃ cs, a.eval gv = .func (.func fid) #[] cs.toArray ∧ VRs C.w (C.ok X) caps cs := by
                generalize a.eval gv = u at hv
                cases hv with
                | d hv =>
                  cases hv with
                  | fn hv => exact ⟨_, rfl, hv⟩
              refine ⟨c.args.toList.map a.eval ++ cs, ?_, (mapVal_rel hC.val h3).append (hr.toA).toL, h1, e3, e4.symm⟩
              rw [key fid cs.toArray hcs rfl]
              congr 2
              exact Array.ext' (by simp)
            · cases e
          obtain ⟨vs, hx, hargs, hgd, hdst, rfl⟩ := hrun
          subst hdst
          obtain ⟨e, w', fr, ⟨v, C', rfl, rfl, hrel, hrows, hret⟩, hsteps, _, hleave⟩ := H C vs hC.rel hC.rows hargs (b.atR a (.inRegion ops (i :: rest) :: k0) :: cs)
          have hgg := stepGR_op (P := X.P) (b := b) (k := k0) (cs := cs) (w := C.w) (rest := rest) ho (guard_wanted hC hgd)
          rw [Oper.semAt_eq _ _ _ (by intro c' hc'; rw [hc] at hc'; cases hc')] at hgg
          have henter : step X.P (lone (b.atR a (.inRegion ops (i :: rest) :: k0)) cs C.w) = .next (lone (Frame.enter X.P g vs.toArray .normal) (b.atR a (.inRegion ops (i :: rest) :: k0) :: cs) C.w) :=
            step_lone_go (by rw [hgg]; simp [stepG.apply, hx, Frame.atR])
          have hfin : (b.atR a (.inRegion ops (i :: rest) :: k0)).finish v = b.atR (a.put o.dst v) (.inRegion ops rest :: k0) := by
            rw [Frame.finish_atR, ho]; rfl
          have hsim : Sim X ⟨st.nt, [], rows'⟩ a C' := ⟨hrel, hrows, hC.defers, hC.nt, fun i av hi => by cases hi⟩
          refine ⟨_, C', hsim.put hput hret, .head henter (hsteps.trans (.one ?_))⟩
          rw [← hfin]
          exact step_leave_returned hleave
        · cases e
      · cases e
    · cases e
  · cases e

/-- A call that is handed rows, in a region whose order is left open. -/
theorem ak_callDR {X : Ctx} {f g : FuncId} {k k' : List Item} {Q : Frame → Frame → Conf → Prop} {st st' : St} {P : Program} {avs args : List AV} {dst : Option Tmp} (ids : List Nat) {rowsIn rowsOut : List Row} {ret : AV} (hP : X.P = P) (he : Enters P g) (hs : Says P g rowsIn args rowsOut ret)
    (e : callAt st k = some (g, avs, dst, k')) (hh : Hands st.rows ids rowsIn) (hp : PassL st.rows ids (moveTo ids st.rows.length) avs args)
    (hput : St.put { st with rows := afterCall st.rows ids rowsOut } dst (renA (moveTo ids st.rows.length) ret) = some st') (h : AK X f k' Q st') : AK X f k Q st := by
  subst hP
  exact ak_call ids e he hh hp hs hput h

/-- What a call turns: at most the block g; what it lays is new. -/
structure Aft (g : Option Nat) (w w' : World) : Prop where
  os : w'.os = w.os
  tape : w'.tape = w.tape
  output : w'.output = w.output
  drawn : w.drawn ≤ w'.drawn
  size : w.heap.size ≤ w'.heap.size
  block : ∀ k, k < w.heap.size → g ≠ some k → w'.heap[k]? = w.heap[k]?

theorem HRel.aft {X : Ctx} {C : Conf} {g : Option Nat} {w' : World} (h : HRel X C) (h0 : X.μ0 = []) (t : Aft g C.w w') (hg : ∀ k, g = some k → X.w0.heap.size ≤ k) : HRel X ⟨C.μ, C.rows.map fun _ => .gone, w'⟩ := by
  refine ⟨by simp [h.len], t.os.trans h.os, t.tape.trans h.tape, ⟨t.output.trans h.output.1, Nat.le_trans h.output.2 t.drawn⟩, Nat.le_trans h.size t.size, ?_, ?_, h.first, ?_, ?_, ?_, ?_, ?_⟩
  · intro b hb ho
    refine (t.block b (Nat.lt_of_lt_of_le hb h.size) fun e => ?_).trans (h.keep b hb ho)
    have := hg b e
    omega
  · intro b cs ty hc
    have hb := (Array.getElem?_eq_some_iff.1 hc).1
    obtain ⟨cs', h1, h2⟩ := h.shape b cs ty hc
    exact ⟨cs', (t.block b (Nat.lt_of_lt_of_le hb h.size) fun e => by have := hg b e; omega).trans h1, h2⟩
  · intro id b hb
    exact ⟨(h.place id b hb).1, Nat.lt_of_lt_of_le (h.place id b hb).2 t.size⟩
  · intro i j b r s _ _ h3 _ h5
    rw [List.getElem?_map] at h3
    obtain ⟨_, _, rfl⟩ := Option.map_eq_some_iff.1 h3
    cases h5
  · intro i m b r _ h3 h5
    rw [List.getElem?_map] at h3
    obtain ⟨_, _, rfl⟩ := Option.map_eq_some_iff.1 h3
    cases h5
  · intro i j m n b r s _ _ h3 _ h5
    rw [List.getElem?_map] at h3
    obtain ⟨_, _, rfl⟩ := Option.map_eq_some_iff.1 h3
    cases h5
  · intro id ob r _ h2
    rw [List.getElem?_map] at h2
    obtain ⟨_, _, rfl⟩ := Option.map_eq_some_iff.1 h2
    cases ob <;> trivial

/-- What (*strings.Builder).String does, at any world. -/
structure BldStr (P : Program) (f : FuncId) (T E : TypeId) : Prop where
  full : ∀ (b g cap : Nat) (p : Value) (cur : Array Value) (l : List UInt8) (w : World), l ≠ [] → l.length ≤ cap → cap ≤ maxLen → cur.size = cap → w.heap[b]? = some (.cells #[p, .slice (some ⟨g, 0, none⟩) l.length cap] T (0, 0)) →
    w.heap[g]? = some (.cells cur E (0, 0)) → (∀ (j : Nat) x, l[j]? = some x → cur[j]? = some (.int .u8 x.toNat)) → Calls P f #[.pointer (some ⟨b, 0, none⟩)] w fun e w' => e = .returned (.string ⟨l.toArray⟩) ∧ w' = w.drew.freeze ⟨g, 0, none⟩ l.length
  empty : ∀ (b : Nat) (p : Value) (w : World), w.heap[b]? = some (.cells #[p, .slice none 0 0] T (0, 0)) → Calls P f #[.pointer (some ⟨b, 0, none⟩)] w fun e w' => e = .returned (.string ⟨#[]⟩) ∧ w' = w.drew
  room : ∀ (b g cap : Nat) (p : Value) (w : World), cap ≠ 0 → w.heap[b]? = some (.cells #[p, .slice (some ⟨g, 0, none⟩) 0 cap] T (0, 0)) → Calls P f #[.pointer (some ⟨b, 0, none⟩)] w fun e w' => e = .returned (.string ⟨#[]⟩) ∧ w' = w.drew
  noroom : ∀ (b g : Nat) (p : Value) (cur : Array Value) (w : World), w.heap[b]? = some (.cells #[p, .slice (some ⟨g, 0, none⟩) 0 0] T (0, 0)) → w.heap[g]? = some (.cells cur E (0, 0)) →
    Calls P f #[.pointer (some ⟨b, 0, none⟩)] w fun e w' => e = .returned (.string ⟨#[]⟩) ∧ w' = w.drew.alloc (.view ⟨g, 0, none⟩ E)

theorem aft_drew (w : World) : Aft none w w.drew := ⟨rfl, rfl, rfl, Nat.le_succ _, Nat.le_refl _, fun _ _ _ => rfl⟩
theorem aft_alloc (w : World) (o : Obj) : Aft none w (w.drew.alloc o) := ⟨rfl, rfl, rfl, Nat.le_succ _, by rw [World.alloc, Array.size_push]; exact Nat.le_succ _, fun k hk _ => by
  simp only [World.alloc]
  exact (Array.getElem?_push_lt hk).trans (Array.getElem?_eq_getElem hk).symm⟩
theorem aft_freeze (w : World) (g n : Nat) : Aft (some g) w (w.drew.freeze ⟨g, 0, none⟩ n) := by
  by_cases h0 : n = 0
  · subst h0
    exact ⟨rfl, rfl, rfl, Nat.le_succ _, Nat.le_refl _, fun _ _ _ => rfl⟩
  · have e : w.drew.freeze ⟨g, 0, none⟩ n = { w.drew with heap := (w.drew.freeze ⟨g, 0, none⟩ n).heap } := by simp [World.freeze, h0]
    refine ⟨by rw [e]; rfl, by rw [e]; rfl, by rw [e]; rfl, by rw [e]; exact Nat.le_succ _, by simp only [World.freeze, if_neg h0, Array.size_modify]; exact Nat.le_refl _, fun k hk hg => ?_⟩
    have hkg : g ≠ k := fun e => hg (by rw [e])
    simp only [World.freeze, if_neg h0, Array.getElem?_modify, if_neg hkg]
    rfl

theorem bytesL_append (s t : ByteArray) : bytesL (s ++ t) = bytesL s ++ bytesL t := by
  unfold bytesL
  rw [ByteArray.data_append, Array.toList_append, List.map_append]

theorem bytes_get {s : ByteArray} {j : Nat} {x : UInt8} (h : s.data.toList[j]? = some x) : (bytesL s).getD j 0 = x.toNat := by
  unfold bytesL
  rw [List.getD_eq_getElem?_getD, List.getElem?_map, h]
  rfl

theorem ak_bldStr {X : Ctx} {f g : FuncId} {k k' : List Item} {Q : Frame → Frame → Conf → Prop} {st st' : St} {dst : Option Tmp} {P : Program} {T E : TypeId} (s : ByteArray) (bid id : Nat) (a : AV)
    (hP : X.P = P) (hb : BldStr P g T E) (he : Enters P g) (h0 : X.μ0.length = 0) (e : callAt st k = some (g, [.ptr bid 0 0 0], dst, k'))
    (hr1 : st.rows[bid]? = some (.box T [a, .own id 1 0 (bytesL s).length])) (hr2 : st.rows[id]? = some (.flat false 1 E (bytesL s).length (vec (eI .u8) 0 (bytesL s))))
    (hput : St.put ⟨st.nt, [], st.rows.map fun _ => .gone⟩ dst (.d (.v (.string s))) = some st') (h : AK X f k' Q st') : AK X f k Q st := by
  have hl0 : X.μ0 = [] := List.length_eq_zero_iff.1 h0
  refine ak_callRaw e (hP ▸ he) (fun C vs hC hrows hargs => ?_) hput h
  rw [← hrows] at hr1 hr2 ⊢
  cases hargs with
  | cons h1 hs =>
    cases hs
    cases h1 with
    | ptr hm =>
      rename_i b
      obtain ⟨us, c1, c2⟩ := hC.rel bid _ _ hm hr1
      cases c2 with
      | cons p1 c3 c4 =>
        rename_i pv us
        cases c4 with
        | cons p2 c5 c6 =>
          rename_i sv us
          cases c6
          have fin : ∀ (go : Option Nat), (∀ k, go = some k → X.w0.heap.size ≤ k) → ∀ (w' : World), Aft go C.w w' → ∃ v C', Ending.returned (.string s) = .returned v ∧ C'.w = w' ∧ HRel X C' ∧ C'.rows = C.rows.map (fun _ => Row.gone) ∧ AVR C'.w (C'.ok X) C'.μ (.d (.v (.string s))) v :=
            fun go hgo w' t => ⟨_, ⟨C.μ, C.rows.map fun _ => .gone, w'⟩, rfl, rfl, hC.aft hl0 t hgo, rfl, .d (.v rfl)⟩
          have hsz : (bytesL s).length = s.data.toList.length := by simp [bytesL]
          rw [hP]
          have hz : ∀ n, n = (bytesL s).length → n = 0 → s = ⟨#[]⟩ := fun n h1 h2 => by
            have hd : s.data.toList = [] := List.length_eq_zero_iff.1 (by rw [← hsz, ← h1, h2])
            cases s with
            | mk d =>
              have : d = #[] := Array.ext' hd
              rw [this]
          generalize hn : (bytesL s).length = n at c5
          generalize ho : (0 : Nat) = off at c5
          cases c5 with
          | own0 hμ =>
            have := hz 0 hn.symm rfl
            subst this
            exact (hb.empty b pv C.w c1).mono fun e w' ⟨e1, e2⟩ => by subst e1; subst e2; exact fin none (by intro _ h; cases h) _ (aft_drew _)
          | own hμ hh hs hn2 hc =>
            rename_i g cap cur ty
            subst ho
            obtain ⟨cur', ws, r1, r2, r3, r4, r5⟩ := hC.rel id _ _ hμ hr2
            rw [hh] at r1
            injection r1 with r1
            injection r1 with r1 r1'
            subst r1
            subst r1'
            have hg0 : X.w0.heap.size ≤ g := by
              rcases (hC.place id g hμ).1 with q | q
              · rcases q with q | q
                · rw [hl0] at q
                  cases q
                · exact absurd hl0 q.1
              · exact q
            rw [Nat.zero_mul] at c1
            by_cases hn0 : n = 0
            · have := hz n hn.symm hn0
              subst this
              subst hn0
              by_cases hc0 : cap = 0
              · subst hc0
                exact (hb.noroom b g pv cur C.w c1 hh).mono fun e w' ⟨e1, e2⟩ => by subst e1; subst e2; exact fin none (by intro _ h; cases h) _ (aft_alloc _ _)
              · exact (hb.room b g cap pv C.w hc0 c1).mono fun e w' ⟨e1, e2⟩ => by subst e1; subst e2; exact fin none (by intro _ h; cases h) _ (aft_drew _)
            · have hll : n = s.data.toList.length := hn.symm.trans hsz
              rw [hll] at c1
              have hcall := hb.full b g cap pv cur s.data.toList C.w (fun e => hn0 (by rw [hll, e]; rfl)) (by omega) hc (by omega) c1 hh (fun j x hx => ?_)
              · exact hcall.mono fun e w' ⟨e1, e2⟩ => by
                  subst e1; subst e2
                  rw [show (⟨s.data.toList.toArray⟩ : ByteArray) = s by simp]
                  exact fin (some g) (by intro k hk; cases hk; exact hg0) _ (aft_freeze _ _ _)
              · have hj : j < n := by rw [hll]; exact (List.getElem?_eq_some_iff.1 hx).1
                have hv := r4 j (by rw [hn]; exact hj)
                have hl := r3 j (by rw [hn]; exact hj)
                have hg5 := fun u => r5 j 0 u (by rw [hn]; exact hj)
                simp only [vec, eI, bytes_get hx] at hv
                generalize ws j = q at hv hl hg5
                cases hv with
                | cons o1 o2 o3 =>
                  cases o3
                  cases o2
                  have := hg5 _ rfl
                  simpa using this
/-- What (*strings.Builder).copyCheck does, at any world. -/
structure BldCopy (P : Program) (f : FuncId) (T : TypeId) : Prop where
  used : ∀ (b : Nat) (w : World), w.cell? ⟨b, 0, none⟩ = some (.pointer (some ⟨b, 0, none⟩)) → Calls P f #[.pointer (some ⟨b, 0, none⟩)] w fun e w' => e = .returned (.tuple #[]) ∧ w' = w
  fresh : ∀ (b : Nat) (w : World), w.cell? ⟨b, 0, none⟩ = some (.pointer none) → w.shape? b = some (T, 2) → w.frozen? ⟨b, 0, none⟩ = false →
    Calls P f #[.pointer (some ⟨b, 0, none⟩)] w fun e w' => e = .returned (.tuple #[]) ∧ w' = w.setCell ⟨b, 0, none⟩ (.pointer (some ⟨b, 0, none⟩))

theorem bld_rowR {w : World} {ok ok' : Bool → Nat → Prop} {μ : List (Option Nat)} {ob : Option Nat} {T E : TypeId} {n : Nat} {xs : List Int} {id : Nat} {r : Row} (hok : ∀ b, ok true b → ok' true b)
    (hr : [Row.box T [.ptr 0 0 0 0, .own 1 1 0 n], .flat false 1 E xs.length (vec (eI .u8) 0 xs)][id]? = some r) (h : RowRel w ok μ ob r) : RowRel w ok' μ ob r :=
  h.perm hok (match id, hr with
    | 0, rfl => .box (.cons (.ptr _ _ _ _) (.cons (.own _ _ _ _) .nil))
    | 1, rfl => nr_vec (nlI .u8)
    | _ + 2, h => by simp at h)

theorem cc_says {P : Program} {f : FuncId} {T E : TypeId} (h : BldCopy P f T) (a : AV) (ha : a = .d (.v (.pointer none)) ∨ a = .ptr 0 0 0 0) (n : Nat) (xs : List Int) :
    Says P f [.box T [a, .own 1 1 0 n], .flat false 1 E xs.length (vec (eI .u8) 0 xs)] [.ptr 0 0 0 0] [.box T [.ptr 0 0 0 0, .own 1 1 0 n], .flat false 1 E xs.length (vec (eI .u8) 0 xs)] (.tup []) := by
  intro X vs hP hF hC hargs
  cases hargs with
  | cons h1 hs =>
    cases hs
    cases h1 with
    | ptr hm =>
      rename_i b
      obtain ⟨us, c1, c2⟩ := hC.rel 0 _ _ hm rfl
      rw [Nat.zero_mul, Nat.zero_add]
      have hokr : ∀ (C : Conf) (b : Nat), C.ok X true b → C.okR X true b := fun _ _ h => ⟨rfl, h⟩
      rcases ha with rfl | rfl
      · cases c2 with
        | @cons _ _ _ us p1 c3 c4 =>
          cases c3 with
          | d c3 =>
            cases c3
            have hh : X.w0.heap[b]? = some (.cells (Value.pointer none :: us).toArray T (0, 0)) := c1
            have hsz : (Value.pointer none :: us).toArray.size = 2 := by
              have := c4.length
              simp at this
              simp [← this]
            refine (h.fresh b X.w0 (by rw [Lib.cell_of_heap hh]; rfl) (by simp only [World.shape?, hh, hsz]) (Lib.frozen_of_heap hh 0)).mono ?_
            rintro e w' ⟨rfl, rfl⟩
            have hh' : (X.w0.setCell ⟨b, 0, none⟩ (.pointer (some ⟨b, 0, none⟩))).heap[b]? = some (.cells (Value.pointer (some ⟨b, 0, none⟩) :: us).toArray T (0, 0)) := by
              simp [World.setCell, Array.getElem?_modify, hh]
            have tu : Turns X ⟨X.μ0, [Row.box T [.d (.v (.pointer none)), .own 1 1 0 n], .flat false 1 E xs.length (vec (eI .u8) 0 xs)], X.w0⟩ 0 b (.box T [.d (.v (.pointer none)), .own 1 1 0 n]) (.box T [.ptr 0 0 0 0, .own 1 1 0 n]) (X.w0.setCell ⟨b, 0, none⟩ (.pointer (some ⟨b, 0, none⟩))) :=
              ⟨hm, rfl, rfl, rfl, rfl, ⟨rfl, Nat.le_refl _⟩, by simp [World.setCell], fun k hk => by
                have hk' : b ≠ k := fun e => hk e.symm
                simp only [World.setCell, Array.getElem?_modify, if_neg hk'], fun cs ty hc => by
                  rw [hh] at hc
                  injection hc with hc
                  injection hc with e1 e2
                  subst e1
                  subst e2
                  exact ⟨_, hh', rfl⟩, fun _ _ => rfl, fun _ _ => rfl⟩
            have ev := Ev.turn hC tu
            have hrel := HRel.turn hC tu (.inl (by simp)) ⟨_, hh', .cons rfl (by
              have := AVR.ptr (w := X.w0.setCell ⟨b, 0, none⟩ (.pointer (some ⟨b, 0, none⟩))) (ok := ((⟨X.μ0, [Row.box T [.d (.v (.pointer none)), .own 1 1 0 n], .flat false 1 E xs.length (vec (eI .u8) 0 xs)], X.w0⟩ : Conf).turn 0 (.box T [.ptr 0 0 0 0, .own 1 1 0 n]) (X.w0.setCell ⟨b, 0, none⟩ (.pointer (some ⟨b, 0, none⟩)))).ok X) (id := 0) (k := 0) (i := 0) (off := 0) hm
              simpa using this) (c4.mono ev.ok ev.same ev.pre ev.shape)⟩
            exact ⟨_, X.μ0, rfl, hrel, fun id ob r e1 e2 => bld_rowR (hokr _) e2 (hrel.rel id ob r e1 e2), .tup .nil⟩
      · have hc0 : X.w0.cell? ⟨b, 0, none⟩ = some (.pointer (some ⟨b, 0, none⟩)) := by
          rw [Lib.cell_of_heap c1]
          cases c2 with
          | cons p1 c3 c4 =>
            cases c3 with
            | ptr hm2 =>
              rw [hm] at hm2
              cases hm2
              simp
        refine (h.used b X.w0 hc0).mono ?_
        rintro e w' ⟨rfl, rfl⟩
        exact ⟨_, X.μ0, rfl, hC, fun id ob r e1 e2 => bld_rowR (hokr _) e2 (hC.rel id ob r e1 e2), .tup .nil⟩
end Go.Sy
