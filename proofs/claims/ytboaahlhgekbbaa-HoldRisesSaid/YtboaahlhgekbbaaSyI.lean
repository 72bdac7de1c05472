/- Appending. -/
import Derived.Test.YtboaahlhgekbbaaSyH
set_option linter.unusedVariables false
set_option linter.unusedSimpArgs false
namespace Go.Sy

section
variable {X : Ctx} {C : Conf}

/-! ### A row under a new id -/
def Conf.renew (C : Conf) (id : Nat) (ob : Option Nat) (r : Row) : Conf := ⟨C.μ ++ [ob], C.rows.set id .gone ++ [r], C.w⟩

theorem live_renew (h : HRel X C) {id : Nat} {ob : Option Nat} {r : Row} (hμ : C.μ[id]? = some ob) (hr : C.rows[id]? = some r) {b : Nat} : (C.renew id ob r).live b → C.live b := by
  have hlt := (List.getElem?_eq_some_iff.1 hr).1
  rintro ⟨i, m, s, h1, h2, h3, h4⟩
  simp only [Conf.renew] at h1 h2
  rcases get_append_iff.1 h1 with h1 | ⟨e1, h1⟩ <;> rcases get_append_iff.1 h2 with h2 | ⟨e2, h2⟩
  · rcases (get_set_iff hlt).1 h2 with ⟨_, rfl⟩ | ⟨_, h2⟩
    · cases h3
    · exact ⟨i, m, s, h1, h2, h3, h4⟩
  · have := (List.getElem?_eq_some_iff.1 h1).1
    have := h.len
    simp at e2
    omega
  · have k1 := (List.getElem?_eq_some_iff.1 h2).1
    have k2 := h.len
    simp at k1
    omega
  · subst h1
    subst h2
    exact ⟨id, _, r, hμ, hr, h3, h4⟩

theorem ev_renew (h : HRel X C) {id : Nat} {ob : Option Nat} {r : Row} (hμ : C.μ[id]? = some ob) (hr : C.rows[id]? = some r) : Ev X C (C.renew id ob r) :=
  ⟨Nat.le_refl _, fun _ _ _ => rfl, fun b _ hl k => hl (live_renew h hμ hr k), fun _ _ _ k => ⟨_, k, rfl⟩, fun _ _ hx => get_append_old hx⟩

theorem rel_renew (h : HRel X C) {id : Nat} {ob : Option Nat} {r : Row} (hμ : C.μ[id]? = some ob) (hr : C.rows[id]? = some r) (hlive : r.live = true) : HRel X (C.renew id ob r) := by
  have ev := ev_renew h hμ hr
  have hlt := (List.getElem?_eq_some_iff.1 hr).1
  have hlen := h.len
  have hat : ∀ {i : Nat} {b : Option Nat} {s : Row}, (C.renew id ob r).μ[i]? = some b → (C.renew id ob r).rows[i]? = some s → s ≠ .gone → ∃ i', C.μ[i']? = some b ∧ C.rows[i']? = some s ∧ ((i = C.rows.length ∧ i' = id) ∨ (i' = i ∧ i ≠ id)) := by
    intro i b s h1 h2 hg
    simp only [Conf.renew] at h1 h2
    rcases get_append_iff.1 h1 with h1 | ⟨e1, h1⟩ <;> rcases get_append_iff.1 h2 with h2 | ⟨e2, h2⟩
    · rcases (get_set_iff hlt).1 h2 with ⟨_, rfl⟩ | ⟨n1, h2⟩
      · exact absurd rfl hg
      · exact ⟨i, h1, h2, .inr ⟨rfl, Ne.symm n1⟩⟩
    · have := (List.getElem?_eq_some_iff.1 h1).1
      simp at e2
      omega
    · have := (List.getElem?_eq_some_iff.1 h2).1
      simp at this
      omega
    · subst h1
      subst h2
      simp at e2
      exact ⟨id, hμ, hr, .inl ⟨e2, rfl⟩⟩
  refine ⟨by simp [Conf.renew, hlen], h.os, h.tape, h.output, h.size, h.keep, h.shape, fun i x hx => get_append_old (h.first i x hx), ?_, ?_, ?_, ?_, ?_⟩
  · intro i b hb
    simp only [Conf.renew] at hb
    rcases get_append_iff.1 hb with hb | ⟨_, hb⟩
    · exact h.place i b hb
    · subst hb
      exact h.place id b hμ
  · intro i j b p q h1 h2 h3 h4 h5 h6
    obtain ⟨i', a1, a2, a3⟩ := hat h1 h3 (by rintro rfl; cases h5)
    obtain ⟨j', b1, b2, b3⟩ := hat h2 h4 h6
    have := h.apart i' j' b p q a1 b1 a2 b2 h5 h6
    omega
  · intro i m b p h1 h2 h3
    obtain ⟨i', a1, a2, a3⟩ := hat h1 h2 (by rintro rfl; cases h3)
    exact h.placeX i' m b p a1 a2 h3
  · intro i j m n b p q h1 h2 h3 h4 h5 h6
    obtain ⟨i', a1, a2, a3⟩ := hat h1 h3 (by rintro rfl; cases h5)
    obtain ⟨j', b1, b2, b3⟩ := hat h2 h4 h6
    have := h.apartX i' j' m n b p q a1 b1 a2 b2 h5 h6
    exact ⟨this.1, fun h7 => by have := this.2 h7; omega⟩
  · intro i o s h1 h2
    simp only [Conf.renew] at h1 h2
    rcases get_append_iff.1 h1 with h1 | ⟨e1, h1⟩ <;> rcases get_append_iff.1 h2 with h2 | ⟨e2, h2⟩
    · rcases (get_set_iff hlt).1 h2 with ⟨_, rfl⟩ | ⟨n1, h2⟩
      · cases o <;> trivial
      · exact (h.rel i o s h1 h2).mono ev.ok ev.same ev.pre ev.shape (fun _ _ => rfl) (fun _ _ => rfl)
    · have := (List.getElem?_eq_some_iff.1 h1).1
      simp at e2
      omega
    · have := (List.getElem?_eq_some_iff.1 h2).1
      simp at this
      omega
    · subst h1
      subst h2
      exact (h.rel id ob r hμ hr).mono ev.ok ev.same ev.pre ev.shape (fun _ _ => rfl) (fun _ _ => rfl)

/-! ### A row's own slice -/
theorem gone_turns (h : HRel X C) {id b : Nat} {r : Row} (hμ : C.μ[id]? = some (some b)) (hr : C.rows[id]? = some r) (hl : r.live = true) (hx : ∀ w m, r.ext w m = [] := by intros; rfl) : Turns X C id b r .gone C.w :=
  ⟨hμ, hr, hl, rfl, rfl, ⟨rfl, Nat.le_refl _⟩, rfl, fun _ _ => rfl, fun _ _ k => ⟨_, k, rfl⟩, hx, fun _ _ => rfl⟩

/-- A virtual row is forgotten. -/
theorem virt_gone (h : HRel X C) {id : Nat} (hμ : C.μ[id]? = some none) : HRel X ⟨C.μ, C.rows.set id .gone, C.w⟩ ∧ Ev X C ⟨C.μ, C.rows.set id .gone, C.w⟩ := by
  have hlive : ∀ {b : Nat}, (⟨C.μ, C.rows.set id .gone, C.w⟩ : Conf).live b → C.live b := by
    rintro b ⟨i, m, s, h1, h2, h3, h4⟩
    simp only [List.getElem?_set] at h2
    split at h2
    · split at h2
      · injection h2 with h2; subst h2; cases h3
      · cases h2
    · exact ⟨i, m, s, h1, h2, h3, h4⟩
  have ev : Ev X C ⟨C.μ, C.rows.set id .gone, C.w⟩ := ⟨Nat.le_refl _, fun _ _ _ => rfl, fun _ _ hl k => hl (hlive k), fun _ _ _ k => ⟨_, k, rfl⟩, fun _ _ hx => hx⟩
  have hback : ∀ {i : Nat} {s : Row}, (C.rows.set id .gone)[i]? = some s → s ≠ .gone → C.rows[i]? = some s := by
    intro i s h2 hg
    simp only [List.getElem?_set] at h2
    split at h2
    · split at h2
      · injection h2 with h2; exact absurd h2.symm hg
      · cases h2
    · exact h2
  refine ⟨⟨by simp [h.len], h.os, h.tape, h.output, h.size, h.keep, h.shape, h.first, h.place, ?_, ?_, ?_, ?_⟩, ev⟩
  · intro i j b p q h1 h2 h3 h4 h5 h6
    exact h.apart i j b p q h1 h2 (hback h3 (by rintro rfl; cases h5)) (hback h4 h6) h5 h6
  · intro i m b p h1 h2 h3
    exact h.placeX i m b p h1 (hback h2 (by rintro rfl; cases h3)) h3
  · intro i j m n b p q h1 h2 h3 h4 h5 h6
    exact h.apartX i j m n b p q h1 h2 (hback h3 (by rintro rfl; cases h5)) (hback h4 h6) h5 h6
  · intro i o s h1 h2
    by_cases hg : s = .gone
    · subst hg; cases o <;> trivial
    · exact (h.rel i o s h1 (hback h2 hg)).mono ev.ok ev.same ev.pre ev.shape (fun _ _ => rfl) (fun _ _ => rfl)

/-- What is appended: m elements that lie somewhere. -/
structure Source (C : Conf) (X : Ctx) (k m : Nat) (gs : Nat → List DV) (u : Value) (news : List Value) : Prop where
  shape : ∃ A c, u = .slice A m c ∧ (0 < m → ∃ ad, A = some ad ∧ ∀ (j : Nat) v, news[j]? = some v → C.w.cell? (ad.add j) = some v)
  len : news.length = m * k
  rel : ∀ i, i < m → VRs C.w (C.ok X) (gs i) ((news.drop (i * k)).take k)
  one : ∀ v ∈ news, v.oneCell' = true

theorem grownCap_ge' (w : World) (need old : Nat) (e : TypeId) : need ≤ grownCap w need old e := grownCap_ge w need old e

theorem row_parts {vs : Nat → List Value} {k n : Nat} (hk : ∀ i, i < n → (vs i).length = k) : ∃ xs : List Value, xs.length = n * k ∧ (∀ i j v, i < n → (vs i)[j]? = some v → xs[i * k + j]? = some v) ∧ (∀ i, i < n → (xs.drop (i * k)).take k = vs i) ∧ (∀ v ∈ xs, ∃ i, i < n ∧ v ∈ vs i) := by
  let ls := (List.range n).map vs
  have hl : ∀ l ∈ ls, l.length = k := by
    intro l h
    obtain ⟨i, hi, rfl⟩ := List.mem_map.1 h
    exact hk i (by simpa using hi)
  have hat : ∀ i, i < n → ls[i]? = some (vs i) := by
    intro i hi
    simp [ls, hi]
  refine ⟨ls.flatten, by rw [flat_len hl]; simp [ls], fun i j v hi hj => flat_get hl (hat i hi) hj, fun i hi => ?_, fun v hv => ?_⟩
  · apply List.ext_getElem?
    intro j
    rw [List.getElem?_take]
    split
    · rename_i hj
      rw [List.getElem?_drop]
      have hj' : j < (vs i).length := by rw [hk i hi]; exact hj
      rw [flat_get hl (hat i hi) (List.getElem?_eq_getElem hj'), List.getElem?_eq_getElem hj']
    · rename_i hj
      rw [List.getElem?_eq_none (by rw [hk i hi]; omega)]
  · obtain ⟨l, h1, h2⟩ := List.mem_flatten.1 hv
    obtain ⟨i, hi, rfl⟩ := List.mem_map.1 h1
    exact ⟨i, by simpa using hi, h2⟩

variable {T : Tab}

set_option maxHeartbeats 1000000 in
theorem append_conf (hT : TabOk X.P T) (h : HRel X C) {id k m n by' : Nat} {t e ty : TypeId} {z : List Value} {g gs g' : Nat → List DV} {v u : Value} {news : List Value}
    (hr : C.rows[id]? = some (.flat false k e n g)) (hv : AVR C.w (C.ok X) C.μ (.own id k 0 n) v) (ht : T.slices.lookup t = some e) (hi : T.info.lookup e = some (k, by', z)) (hz : z.length = k) (hk : 0 < k)
    (src : Source C X k m gs u news) (hb : (n + m) * by' ≤ 140737488355328) (hlim : n + m ≤ 9223372036854775807) (h1 : ∀ i, i < n → g' i = g i) (h2 : ∀ i, i < m → g' (n + i) = gs i) :
    ∃ v' C', (Builtin.append_ #[t, t] ty #[v, u]).run X.P C.w = .ok v' C'.w ∧ C'.rows = C.rows.set id .gone ++ [.flat false k e (n + m) g'] ∧ HRel X C' ∧ Ev X C C' ∧ AVR C'.w (C'.ok X) C'.μ (.own C.rows.length k 0 (n + m)) v' := by
  obtain ⟨i0, hi0, hs0, hb0, hz0⟩ := hT.infoAt hi
  obtain ⟨zv, hzv, hzc⟩ := Option.map_eq_some_iff.1 hz0
  have hu := hT.slice ht
  obtain ⟨A, c, rfl, hsrc⟩ := src.shape
  have hzs : zv.cells.size = k := by rw [hzc]; simpa using hz
  have hlt := (List.getElem?_eq_some_iff.1 hr).1
  -- what the new row's cells are
  have cellsOk : ∀ (old : List Value) (cur : Array Value), old.length = n * k → (∀ i, i < n → VRs C.w (C.ok X) (g i) ((old.drop (i * k)).take k)) → cur.toList.take ((n + m) * k) = old ++ news →
      (n + m) * k ≤ cur.size → ∀ (C' : Conf), Ev X C C' → ∀ b, C'.w.heap[b]? = some (.cells cur e (0, 0)) → RowRel C'.w (C'.ok X) C'.μ (some b) (.flat false k e (n + m) g') := by
    intro old cur ho hrel htk hsz C' ev b hh
    have hlen : (old ++ news).length = (n + m) * k := by rw [List.length_append, ho, src.len, Nat.add_mul]
    refine ⟨cur, fun i => ((old ++ news).drop (i * k)).take k, hh, hsz, ?_, ?_, ?_⟩
    · intro i hi
      rw [List.length_take, List.length_drop, hlen]
      have : i * k + k ≤ (n + m) * k := by rw [← Nat.succ_mul]; exact Nat.mul_le_mul_right k hi
      omega
    · intro i hi
      show VRs _ _ (g' i) (((old ++ news).drop (i * k)).take k)
      by_cases hin : i < n
      · rw [h1 i hin]
        have e1 : i * k + k ≤ n * k := by rw [← Nat.succ_mul]; exact Nat.mul_le_mul_right k hin
        have : ((old ++ news).drop (i * k)).take k = (old.drop (i * k)).take k := by
          rw [List.drop_append_of_le_length (by rw [ho]; omega), List.take_append_of_le_length (by rw [List.length_drop, ho]; omega)]
        rw [this]
        exact (hrel i hin).mono ev.ok ev.same
      · obtain ⟨q, rfl⟩ : ∃ q, i = n + q := ⟨i - n, by omega⟩
        rw [h2 q (by omega)]
        have : ((old ++ news).drop ((n + q) * k)).take k = (news.drop (q * k)).take k := by
          rw [Nat.add_mul, List.drop_append, List.drop_of_length_le (by rw [ho]; omega), List.nil_append, ho, Nat.add_sub_cancel_left]
        rw [this]
        exact (src.rel q (by omega)).mono ev.ok ev.same
    · intro i j w hi hj
      have := cells_take hj
      rw [← htk] at this
      rw [List.getElem?_take] at this
      split at this
      · simpa using this
      · cases this
  have hown : ∀ (C' : Conf) (b c' : Nat) (cur : Array Value), C'.μ[C.rows.length]? = some (some b) → C'.w.heap[b]? = some (.cells cur e (0, 0)) → c' * k = cur.size → n + m ≤ c' → c' ≤ maxLen →
      AVR C'.w (C'.ok X) C'.μ (.own C.rows.length k 0 (n + m)) (.slice (some ⟨b, 0, none⟩) (n + m) c') := by
    intro C' b c' cur e1 e2 e3 e4 e5
    have := AVR.own (w := C'.w) (ok := C'.ok X) (μ := C'.μ) (off := 0) (k := k) (n := n + m) e1 e2 (by rw [Nat.zero_add]; exact e3) e4 e5
    rwa [Nat.zero_mul] at this
  -- a new array
  have fresh : ∀ (C1 : Conf), HRel X C1 → Ev X C C1 → C1.rows = C.rows.set id .gone → ∀ (old : List Value) (q : Nat), q < n + m → old.length = n * k → (∀ i, i < n → VRs C.w (C.ok X) (g i) ((old.drop (i * k)).take k)) →
      C1.w = C.w → (Builtin.append_ #[t, t] ty #[v, .slice A m c]).run X.P C.w = .ok (.slice (some ⟨C.w.heap.size, 0, none⟩) (n + m) (grownCap C.w (n + m) q e))
        (C.w.drew.alloc (.cells (old.toArray ++ news.toArray ++ Builtin.zeroCells zv.cells (grownCap C.w (n + m) q e - (n + m))) e)) →
      ∃ v' C', (Builtin.append_ #[t, t] ty #[v, .slice A m c]).run X.P C.w = .ok v' C'.w ∧ C'.rows = C.rows.set id .gone ++ [.flat false k e (n + m) g'] ∧ HRel X C' ∧ Ev X C C' ∧ AVR C'.w (C'.ok X) C'.μ (.own C.rows.length k 0 (n + m)) v' := by
    intro C1 hC1 ev1 hrows old q hq ho hrel hw hrun
    have hge := grownCap_ge C.w (n + m) q e
    have hcm : grownCap C.w (n + m) q e ≤ maxLen := grownCap_le_maxLen C.w (n + m) q e (by simp only [maxLen]; omega)
    let cur : Array Value := old.toArray ++ news.toArray ++ Builtin.zeroCells zv.cells (grownCap C.w (n + m) q e - (n + m))
    have hcs : cur.size = grownCap C.w (n + m) q e * k := by
      simp only [cur, Array.size_append, List.size_toArray, size_zeroCells, hzs, ho, src.len, ← Nat.add_mul]
      congr 1
      omega
    have htk : cur.toList.take ((n + m) * k) = old ++ news := by
      have hlen : (old ++ news).length = (n + m) * k := by rw [List.length_append, ho, src.len, Nat.add_mul]
      simp only [cur, Array.toList_append, List.append_assoc]
      rw [← List.append_assoc, ← hlen]
      exact List.take_left
    have hd := hC1.drew
    have ev2 := Ev.push hd (.cells cur e) (.flat false k e (n + m) g')
    have ev := (ev1.trans Ev.drew).trans ev2
    have hsize : C1.drew.w.heap.size = C.w.heap.size := by rw [Conf.drew, hw]; rfl
    refine ⟨.slice (some ⟨C.w.heap.size, 0, none⟩) (n + m) (grownCap C.w (n + m) q e), C1.drew.push (.cells cur e) (.flat false k e (n + m) g'), ?_, by simp [Conf.push, Conf.drew, hrows], HRel.push hd ?_, ev, ?_⟩
    · rw [hrun, Conf.push, Conf.drew, hw]
    · exact cellsOk old cur ho hrel htk (by rw [hcs]; exact Nat.mul_le_mul_right k hge) _ ev _ (heap_alloc_new _ _)
    · refine hown _ C.w.heap.size _ cur ?_ ?_ hcs.symm hge hcm
      · have : C1.μ.length = C.rows.length := by rw [hC1.len, hrows]; simp
        simp [Conf.push, ← this, hsize, Conf.drew]
        rw [hw]
      · rw [← hsize]
        exact heap_alloc_new _ _
  cases hv with
  | own0 hμ =>
    obtain ⟨hg1, hg2⟩ := virt_gone h hμ
    by_cases hm : m = 0
    · subst hm
      have hn : news = [] := List.eq_nil_of_length_eq_zero (by simpa using src.len)
      subst hn
      have hrun : (Builtin.append_ #[t, t] ty #[.slice none 0 0, .slice A 0 c]).run X.P C.w = .ok (.slice none 0 0) C.w := by
        cases A <;> simp [Builtin.append_, run_underlying hu, sizeOf, typeInfo, hi0, Builtin.lenOf, Builtin.firstCells, loadCells, loadCellsFrom]
      have hvr : HRel X ((⟨C.μ, C.rows.set id .gone, C.w⟩ : Conf).virt (.flat false k e 0 g')) := HRel.virt hg1 rfl
      refine ⟨_, (⟨C.μ, C.rows.set id .gone, C.w⟩ : Conf).virt (.flat false k e 0 g'), hrun, rfl, hvr, hg2.trans (Ev.virt hg1 _), ?_⟩
      refine .own0 ?_
      simp [Conf.virt, ← h.len]
    · obtain ⟨ad, rfl, hcell⟩ := hsrc (by omega)
      have hr2 := run_append_nil (P := X.P) C.w t ty e i0 zv hu hi0 hzv ad m c news (by rw [hs0]; exact src.len) hcell (by omega) (by omega) (by rw [hb0]; simp only [Nat.zero_add] at hb; omega)
      refine fresh _ hg1 hg2 rfl [] 0 (by omega) (by simp) (fun i hi => by omega) rfl ?_
      simpa using hr2
  | own hμ hh hs hn hc =>
    rename_i b cap cur ty'
    simp only [Nat.zero_mul, Nat.zero_add] at hs fresh ⊢
    obtain ⟨cur', vs, e1, e2, e3, e4, e5⟩ := h.rel id _ _ hμ hr
    rw [hh] at e1
    injection e1 with e1
    injection e1 with e1 e1'
    subst e1
    have e1' := e1'.symm
    subst e1'
    obtain ⟨old, o1, o2, o3, o4⟩ := row_parts e3
    have hold : old = cur.toList.take (n * k) := by
      apply List.ext_getElem?
      intro j
      by_cases hj : j < n * k
      · have hi' : j / k < n := Nat.div_lt_of_lt_mul (by rwa [Nat.mul_comm] at hj)
        have hjj : j % k < (vs (j / k)).length := by rw [e3 _ hi']; exact Nat.mod_lt _ hk
        have key : j / k * k + j % k = j := by rw [Nat.mul_comm]; exact Nat.div_add_mod j k
        have a1 := o2 (j / k) (j % k) _ hi' (List.getElem?_eq_getElem hjj)
        have a2 := e5 (j / k) (j % k) _ hi' (List.getElem?_eq_getElem hjj)
        rw [key] at a1 a2
        rw [a1, List.getElem?_take_of_lt hj]
        simpa using a2.symm
      · rw [List.getElem?_eq_none (by omega), List.getElem?_eq_none (by simp; omega)]
    have hrel : ∀ i, i < n → VRs C.w (C.ok X) (g i) ((old.drop (i * k)).take k) := fun i hi => by rw [o3 i hi]; exact e4 i hi
    by_cases hm : m = 0
    · subst hm
      have hn0 : news = [] := List.eq_nil_of_length_eq_zero (by simpa using src.len)
      subst hn0
      have hrun : (Builtin.append_ #[t, t] ty #[.slice (some ⟨b, 0, none⟩) n cap, .slice A 0 c]).run X.P C.w = .ok (.slice (some ⟨b, 0, none⟩) n cap) C.w := by
        cases A <;> simp [Builtin.append_, run_underlying hu, sizeOf, typeInfo, hi0, Builtin.lenOf, Builtin.firstCells, loadCells, loadCellsFrom, hn, storeCells]
      have tu : Turns X C id b (.flat false k e n g) (.flat false k e (n + 0) g') C.w := ⟨hμ, hr, rfl, rfl, rfl, ⟨rfl, Nat.le_refl _⟩, rfl, fun _ _ => rfl, fun _ _ k => ⟨_, k, rfl⟩, fun _ _ => rfl, fun _ _ => rfl⟩
      have ev1 := Ev.turn h tu
      have hC1 := HRel.turn h tu (.inl (by simp)) (cellsOk old cur o1 hrel (by simpa using hold.symm) (by simpa using e2) _ ev1 b hh)
      have hr1 : (C.turn id (.flat false k e (n + 0) g') C.w).rows[id]? = some (.flat false k e (n + 0) g') := by simp [Conf.turn, hlt]
      have hμ1 : (C.turn id (.flat false k e (n + 0) g') C.w).μ[id]? = some (some b) := hμ
      refine ⟨.slice (some ⟨b, 0, none⟩) n cap, (C.turn id (.flat false k e (n + 0) g') C.w).renew id (some b) (.flat false k e (n + 0) g'), hrun, ?_, rel_renew hC1 hμ1 hr1 rfl, ev1.trans (ev_renew hC1 hμ1 hr1), ?_⟩
      · simp [Conf.renew, Conf.turn]
      · refine hown _ b cap cur ?_ hh hs hn hc
        simp [Conf.renew, Conf.turn, ← h.len]
    · obtain ⟨ad, rfl, hcell⟩ := hsrc (by omega)
      by_cases hroom : n + m ≤ cap
      · have hfit : n * i0.size + news.length ≤ cur.size := by
          rw [src.len, ← hs, hs0, ← Nat.add_mul]
          exact Nat.mul_le_mul_right _ hroom
        have hrun := run_append_room (P := X.P) C.w t ty e i0 hu hi0 b n cap cur hh ad m c news (by rw [hs0]; exact src.len) hcell src.one hroom hfit
        rw [hs0] at hrun hfit
        let cur2 : Array Value := (cur.toList.take (n * k) ++ news ++ cur.toList.drop (n * k + news.length)).toArray
        have hsz2 : cur2.size = cur.size := by
          simp only [cur2, List.size_toArray, List.length_append, List.length_take, List.length_drop, Array.length_toList]
          omega
        have tu : Turns X C id b (.flat false k e n g) (.flat false k e (n + m) g') (C.w.setRow b cur2) := setRow_turns h hμ hr rfl hh hsz2
        have ev1 := Ev.turn h tu
        have hh2 : (C.w.setRow b cur2).heap[b]? = some (.cells cur2 e (0, 0)) := setRow_heap _ _ _ _ _ _ hh
        have htk : cur2.toList.take ((n + m) * k) = old ++ news := by
          have hlen : (old ++ news).length = (n + m) * k := by rw [List.length_append, o1, src.len, Nat.add_mul]
          simp only [cur2]
          rw [← hold, ← hlen]
          exact List.take_left
        have hC1 := HRel.turn h tu (.inl (by simp)) (cellsOk old cur2 o1 hrel htk (by rw [hsz2, ← hs]; exact Nat.mul_le_mul_right k hroom) _ ev1 b hh2)
        have hr1 : (C.turn id (.flat false k e (n + m) g') (C.w.setRow b cur2)).rows[id]? = some (.flat false k e (n + m) g') := by simp [Conf.turn, hlt]
        have hμ1 : (C.turn id (.flat false k e (n + m) g') (C.w.setRow b cur2)).μ[id]? = some (some b) := hμ
        refine ⟨.slice (some ⟨b, 0, none⟩) (n + m) cap, (C.turn id (.flat false k e (n + m) g') (C.w.setRow b cur2)).renew id (some b) (.flat false k e (n + m) g'), hrun, ?_, rel_renew hC1 hμ1 hr1 rfl, ev1.trans (ev_renew hC1 hμ1 hr1), ?_⟩
        · simp [Conf.renew, Conf.turn]
        · refine hown _ b cap cur2 ?_ hh2 (by rw [hsz2]; exact hs) hroom hc
          simp [Conf.renew, Conf.turn, ← h.len]
      · have hholds : ∀ (j : Nat) v, old[j]? = some v → C.w.cell? ((⟨b, 0, none⟩ : Addr).add j) = some v := by
          intro j v hj
          rw [add_none, Nat.zero_add, cell_of_row _ _ _ _ _ _ hh]
          rw [hold] at hj
          have := hj
          rw [List.getElem?_take] at this
          split at this
          · simpa using this
          · cases this
        have hrun := run_append_grow (P := X.P) C.w t ty e i0 zv hu hi0 hzv ⟨b, 0, none⟩ n cap old (by rw [hs0]; exact o1) hholds ad m c news (by rw [hs0]; exact src.len) hcell (by omega) (by omega) (growslice_fits (by omega) (by rw [hb0]; exact hb))
        have tu := gone_turns h hμ hr rfl
        have ev1 := Ev.turn h tu
        have hC1 := HRel.turn h tu (.inr rfl) trivial
        exact fresh _ hC1 ev1 rfl old cap (by omega) o1 hrel rfl hrun
end
end Go.Sy
