/- slices.Insert of one element of several cells, as a contract: from what the three roads of its walk say. -/
import Derived.Test.YtboaahlhgekbbaaSyX
import Derived.Test.YtboaahlhgekbbaaSyW
set_option linter.unusedVariables false
set_option linter.unusedSimpArgs false
namespace Go.Sy
open Go.Proofs Go.Lib

/-- A part is copied within a row. -/
theorem copy_in {P : Program} {dT sT elem : TypeId} (hu : P.underlying dT = some (.slice elem)) {k : Nat} (hs : (P.info? elem).map (·.size) = some k) (W : World) (g : Nat) (t : TypeId) (A B R : List Value) (a m : Nat)
    (hA : A.length = a) (hB : B.length = m * k) (hR : k ≤ R.length) (hg : W.heap[g]? = some (.cells (A ++ B ++ R).toArray t (0, 0))) (h1 : ∀ v ∈ B, v.oneCell' = true) (ty : TypeId) (dL dC sL sC : Nat) (hm : m = Nat.min sL dL) :
    (Builtin.copy_ #[dT, sT] ty #[.slice (some ⟨g, a + k, none⟩) dL dC, .slice (some ⟨g, a, none⟩) sL sC]).run P W = .ok (goInt m) (W.setRow g (A ++ (B ++ R).take k ++ B ++ R.drop k).toArray) := by
  have e := run_copy_rowK W dT sT ty elem k m g (a + k) dL dC ⟨g, a, none⟩ sL sC (A ++ B ++ R).toArray t B hu hs hg hm hB
    (fun j v hj => by
      rw [Addr.add_lit]
      simp only [World.cell?, hg]
      subst hA
      simp only [List.getElem?_toArray]
      rw [List.append_assoc, List.getElem?_append_right (by omega), Nat.add_sub_cancel_left, List.getElem?_append_left (List.getElem?_eq_some_iff.1 hj).1, hj]
      rfl)
    (by simp only [List.size_toArray, List.length_append]; omega) h1
  rw [e]
  congr 2
  simp only [List.append_assoc]
  subst hA
  congr 1
  rw [List.take_append, List.take_of_length_le (by omega), Nat.add_sub_cancel_left]
  simp only [List.append_assoc, List.append_cancel_left_eq]
  rw [show A.length + k + B.length = A.length + (B.length + k) by omega, List.drop_append, List.drop_of_length_le (by omega), List.nil_append, Nat.add_sub_cancel_left, List.drop_append, List.drop_of_length_le (by omega), List.nil_append, Nat.add_sub_cancel_left]

/-- .. from another block. -/
theorem copy_from {P : Program} {dT sT elem : TypeId} (hu : P.underlying dT = some (.slice elem)) {k : Nat} (hs : (P.info? elem).map (·.size) = some k) (W : World) (g h : Nat) (t t' : TypeId) (A B R : List Value) (S : Array Value) (V : List Value) (a o m : Nat)
    (hA : A.length = a) (hB : B.length = V.length) (hV : V.length = m * k) (hg : W.heap[g]? = some (.cells (A ++ B ++ R).toArray t (0, 0))) (hh : W.heap[h]? = some (.cells S t' (0, 0))) (hS : ∀ (j : Nat) v, V[j]? = some v → S[o + j]? = some v) (h1 : ∀ v ∈ V, v.oneCell' = true) (ty : TypeId) (dL dC sL sC : Nat) (hm : m = Nat.min sL dL) :
    (Builtin.copy_ #[dT, sT] ty #[.slice (some ⟨g, a, none⟩) dL dC, .slice (some ⟨h, o, none⟩) sL sC]).run P W = .ok (goInt m) (W.setRow g (A ++ V ++ R).toArray) := by
  have e := run_copy_rowK W dT sT ty elem k m g a dL dC ⟨h, o, none⟩ sL sC (A ++ B ++ R).toArray t V hu hs hg hm hV
    (fun j v hj => by
      rw [Addr.add_lit]
      simp only [World.cell?, hh]
      simpa using hS j v hj)
    (by simp only [List.size_toArray, List.length_append]; omega) h1
  rw [e]
  congr 2
  simp only [List.append_assoc]
  subst hA
  congr 1
  rw [List.take_left]
  simp only [List.append_assoc, List.append_cancel_left_eq]
  rw [List.drop_append, List.drop_of_length_le (by omega), List.nil_append, Nat.add_sub_cancel_left, ← hB, List.drop_left]

theorem setRow_alloc (w : World) (cs ds : Array Value) (t : TypeId) (b : Nat) (h : b = w.heap.size) : (w.alloc (.cells cs t)).setRow b ds = w.alloc (.cells ds t) := by
  subst h
  have : ((w.alloc (.cells cs t)).setRow w.heap.size ds).heap = (w.alloc (.cells ds t)).heap := by
    apply Array.ext_getElem?
    intro j
    simp only [World.setRow, World.alloc, Array.getElem?_modify, Array.getElem?_push]
    by_cases h : w.heap.size = j
    · subst h
      simp
    · rw [if_neg h, if_neg (Ne.symm h), if_neg (Ne.symm h)]
  exact congrArg (fun h => ({ w.alloc (.cells ds t) with heap := h } : World)) this

theorem setRow_setRow (w : World) (b : Nat) (cs ds : Array Value) : (w.setRow b cs).setRow b ds = w.setRow b ds := by
  have : ((w.setRow b cs).setRow b ds).heap = (w.setRow b ds).heap := by
    apply Array.ext_getElem?
    intro j
    simp only [World.setRow, Array.getElem?_modify]
    by_cases h : b = j
    · subst h
      simp only [if_true, Option.map_map]
      congr 1
      funext o
      cases o <;> rfl
    · simp only [if_neg h]
  exact congrArg (fun h => ({ w with heap := h } : World)) this

section
variable {α : Type} {enc : α → List Value} {e : α → List DV} {k : Nat} {w : World} {ok : Bool → Nat → Prop} {μ : List (Option Nat)}

theorem flat_at (hk : ∀ x, (enc x).length = k) (z : α) (xs : List α) {i j : Nat} {v : Value} (hi : i < xs.length) (hj : (enc (xs.getD i z))[j]? = some v) : (xs.flatMap enc)[i * k + j]? = some v := by
  rw [List.flatMap_def]
  refine flat_get (fun l hl => ?_) ?_ hj
  · obtain ⟨x, _, rfl⟩ := List.mem_map.1 hl
    exact hk x
  · rw [List.getElem?_map, List.getElem?_eq_getElem hi]
    simp [hi]

theorem len_flat (hk : ∀ x, (enc x).length = k) (xs : List α) : (xs.flatMap enc).length = xs.length * k := by
  rw [List.flatMap_def, flat_len (k := k) (fun l hl => ?_), List.length_map]
  obtain ⟨x, _, rfl⟩ := List.mem_map.1 hl
  exact hk x

/-- A row's cells as a list. -/
theorem row_list (hk : ∀ x, (enc x).length = k) (he : ∀ x, e x = (enc x).map DV.v) (z : α) {b : Nat} {fz : Bool} {ty : TypeId} {xs : List α} {g : Nat → List DV} (hg : ∀ i, i < xs.length → g i = e (xs.getD i z))
    (h : RowRel w ok μ (some b) (.flat fz k ty xs.length g)) : ∃ R : List Value, w.heap[b]? = some (.cells (xs.flatMap enc ++ R).toArray ty (0, 0)) := by
  obtain ⟨cs, vs, r1, r2, r3, r4, r5⟩ := h
  refine ⟨cs.toList.drop (xs.length * k), ?_⟩
  have : xs.flatMap enc ++ cs.toList.drop (xs.length * k) = cs.toList := by
    have h2 : xs.flatMap enc = cs.toList.take (xs.length * k) := by
      apply List.ext_getElem?
      intro q
      by_cases hq : q < xs.length * k
      · have k0 : 0 < k := by rcases Nat.eq_zero_or_pos k with h | h; · subst h; simp at hq
                              · exact h
        have hi : q / k < xs.length := Nat.div_lt_of_lt_mul (by rwa [Nat.mul_comm] at hq)
        have hm : q % k < k := Nat.mod_lt _ k0
        have hj : q % k < (enc (xs.getD (q / k) z)).length := by rw [hk]; exact hm
        have key : q / k * k + q % k = q := by rw [Nat.mul_comm]; exact Nat.div_add_mod q k
        have a1 := flat_at hk z xs hi (List.getElem?_eq_getElem hj)
        have hvs : vs (q / k) = enc (xs.getD (q / k) z) := by
          have := r4 _ hi
          rw [hg _ hi, he] at this
          exact this.plain
        have a2 := r5 (q / k) (q % k) _ hi (by rw [hvs]; exact List.getElem?_eq_getElem hj)
        rw [key] at a1 a2
        rw [a1, List.getElem?_take_of_lt hq]
        simpa using a2.symm
      · rw [List.getElem?_eq_none (by rw [len_flat hk]; omega), List.getElem?_eq_none (by simp; omega)]
    rw [h2, List.take_append_drop]
  rw [this, r1]

theorem list_row (hk : ∀ x, (enc x).length = k) (he : ∀ x, e x = (enc x).map DV.v) (h1 : ∀ x, ∀ v ∈ enc x, v.oneCell' = true) (z : α) {b : Nat} {fz : Bool} {ty : TypeId} {xs : List α} {R : List Value}
    (h : w.heap[b]? = some (.cells (xs.flatMap enc ++ R).toArray ty (0, 0))) : RowRel w ok μ (some b) (.flat fz k ty xs.length (vec e z xs)) := by
  refine ⟨_, fun i => enc (xs.getD i z), h, ?_, fun i _ => hk _, fun i _ => ?_, ?_⟩
  · simp only [List.size_toArray, List.length_append, len_flat hk]
    omega
  · simp only [vec, he]
    exact VRs.ofPlain (h1 _)
  · intro i j v hi hj
    have := flat_at hk z xs hi hj
    simp only [List.getElem?_toArray]
    rw [List.getElem?_append_left (List.getElem?_eq_some_iff.1 this).1, this]
end

theorem own_of {X : Ctx} {C : Conf} {id k n b c : Nat} {cs : Array Value} {ty : TypeId} (h : C.μ[id]? = some (some b)) (hh : C.w.heap[b]? = some (.cells cs ty (0, 0))) (hs : c * k = cs.size) (hn : n ≤ c) (hc : c ≤ maxLen) :
    AVR C.w (C.okR X) C.μ (.own id k 0 n) (.slice (some ⟨b, 0, none⟩) n c) := by
  have := @AVR.own C.w (C.okR X) C.μ id k 0 n b c cs ty h hh (by rw [Nat.zero_add]; exact hs) hn hc
  rwa [Nat.zero_mul] at this

set_option maxHeartbeats 1000000 in
theorem insert_says {P : Program} {T : Tab} (hT : TabOk P T) {f : FuncId} {α : Type} (z : α) (k by' : Nat) (hk0 : 0 < k) {t ty : TypeId} {zs : List Value} (ht : T.slices.lookup t = some ty) (hi : T.info.lookup ty = some (k, by', zs)) (hzs : zs.length = k)
    (enc : α → List Value) (hk : ∀ x, (enc x).length = k) (h1 : ∀ x, ∀ v ∈ enc x, v.oneCell' = true) (e : α → List DV) (he : ∀ x, e x = (enc x).map DV.v)
    (hend : ∀ (base : Option Addr) (n c vb vc : Nat) (w w' : World) (v' : Value), n ≤ c → c ≤ 9223372036854775807 → (base = none → n = 0 ∧ c = 0) →
      ((Builtin.append_ #[t, t] t #[.slice base n c, .slice (some ⟨vb, 0, none⟩) 1 vc]).run P w = .ok v' w') →
      Calls P f #[.slice base n c, .int .i64 n, .slice (some ⟨vb, 0, none⟩) 1 vc] w fun e w2 => e = .returned v' ∧ w2 = w')
    (hshift : ∀ (b n c i vb vc : Nat) (A B R V : List Value) (VS : Array Value) (w : World), i < n → n + 1 ≤ c → c ≤ 9223372036854775807 → vb ≠ b →
      w.heap[b]? = some (.cells (A ++ B ++ R).toArray ty (0, 0)) → w.heap[vb]? = some (.cells VS ty (0, 0)) → A.length = i * k → B.length = (n - i) * k → k ≤ R.length → V.length = k →
      (∀ (j : Nat) v, V[j]? = some v → VS[j]? = some v) → (∀ v ∈ B, v.oneCell' = true) → (∀ v ∈ V, v.oneCell' = true) →
      Calls P f #[.slice (some ⟨b, 0, none⟩) n c, .int .i64 i, .slice (some ⟨vb, 0, none⟩) 1 vc] w fun e w' =>
        e = .returned (.slice (some ⟨b, 0, none⟩) (n + 1) c) ∧ w' = (w.drew.setRow b (A ++ (B ++ R).take k ++ B ++ R.drop k).toArray).setRow b (A ++ V ++ B ++ R.drop k).toArray)
    (hgrow : ∀ (b n c i vb vc : Nat) (A B R V : List Value) (VS : Array Value) (w : World), i < n → n ≤ c → c < n + 1 → (n + 1) * by' ≤ 140737488355328 → vb ≠ b →
      w.heap[b]? = some (.cells (A ++ B ++ R).toArray ty (0, 0)) → w.heap[vb]? = some (.cells VS ty (0, 0)) → A.length = i * k → B.length = (n - i) * k → V.length = k →
      (∀ (j : Nat) v, V[j]? = some v → VS[j]? = some v) → (∀ v ∈ B, v.oneCell' = true) → (∀ v ∈ V, v.oneCell' = true) →
      Calls P f #[.slice (some ⟨b, 0, none⟩) n c, .int .i64 i, .slice (some ⟨vb, 0, none⟩) 1 vc] w fun e w' =>
        e = .returned (.slice (some ⟨w.heap.size, 0, none⟩) (n + 1) (grownCap w (n + 1) c ty)) ∧ ∃ Z : List Value, Z.length = (grownCap w (n + 1) c ty - (n + 1)) * k ∧ w' = (w.drew.alloc (.cells (A ++ V ++ B ++ Z).toArray ty)).drew)
    (xs : List α) (i : Int) (x : α) (h : (0 ≤ i ∧ i ≤ (xs.length : Int)) ∧ (xs.length + 1) * by' ≤ 140737488355328) (hl : xs.length + 1 ≤ 4611686018427387904) :
    Says P f [.flat false k ty xs.length (vec e z xs), .flat false k ty 1 (fun j => [e x].getD j [])] [.own 0 k 0 xs.length, .d (.v (.int .i64 i)), .own 1 k 0 1]
      [.gone, .gone, .flat false k ty (xs.take i.toNat ++ x :: xs.drop i.toNat).length (vec e z (xs.take i.toNat ++ x :: xs.drop i.toNat))] (.own 2 k 0 (xs.take i.toNat ++ x :: xs.drop i.toNat).length) := by
  obtain ⟨⟨hi0, hin⟩, hb⟩ := h
  obtain ⟨q, rfl⟩ : ∃ q : Nat, i = q := ⟨i.toNat, by omega⟩
  rw [show ((q : Int)).toNat = q from rfl]
  have hlen : (xs.take q ++ x :: xs.drop q).length = xs.length + 1 := by
    simp only [List.length_append, List.length_take, List.length_cons, List.length_drop]
    omega
  have hflat : (xs.take q ++ x :: xs.drop q).flatMap enc = (xs.take q).flatMap enc ++ enc x ++ (xs.drop q).flatMap enc := by
    simp only [List.flatMap_append, List.flatMap_cons, List.append_assoc]
  have hA : ((xs.take q).flatMap enc).length = q * k := by rw [len_flat hk, List.length_take]; congr 1; omega
  have hB : ((xs.drop q).flatMap enc).length = (xs.length - q) * k := by rw [len_flat hk, List.length_drop]
  have hAB : xs.flatMap enc = (xs.take q).flatMap enc ++ (xs.drop q).flatMap enc := by rw [← List.flatMap_append, List.take_append_drop]
  have h1B : ∀ v ∈ (xs.drop q).flatMap enc, v.oneCell' = true := fun v hv => by
    obtain ⟨y, _, hy⟩ := List.mem_flatMap.1 hv
    exact h1 y v hy
  generalize hys : xs.take q ++ x :: xs.drop q = ys at hlen hflat ⊢
  intro X vs hP hF hrel hargs
  subst hP
  have nr : NR (.flat false k ty ys.length (vec e z ys)) := nr_vec (fun x => by
    rw [he]
    have : ∀ cs : List Value, NLs (cs.map DV.v) := fun cs => by
      induction cs with
      | nil => exact .nil
      | cons c cs ih => exact .cons (.v _) ih
    exact this _)
  have fin : ∀ {C' : Conf} {v : Value}, HRel X C' → C'.rows = [.gone, .gone, .flat false k ty ys.length (vec e z ys)] → AVR C'.w (C'.okR X) C'.μ (.own 2 k 0 ys.length) v →
      Done X ⟨C'.μ, [.gone, .gone, .flat false k ty ys.length (vec e z ys)], C'.w⟩ (.own 2 k 0 ys.length) v := by
    rintro ⟨μ', rows', w'⟩ v h hr hv
    simp only at hr
    subst hr
    refine ⟨h, ?_, hv⟩
    intro j ob r e1 e2
    match j, e2 with
    | 0, e2 => simp at e2; subst e2; cases ob <;> trivial
    | 1, e2 => simp at e2; subst e2; cases ob <;> trivial
    | 2, e2 =>
      simp at e2
      subst e2
      exact (h.rel 2 ob _ e1 rfl).perm (fun _ h => ⟨rfl, h⟩) nr
    | j + 3, e2 => simp at e2
  cases hargs with
  | cons ha hs =>
  cases hs with
  | cons hf hs2 =>
  cases hs2 with
  | cons hv hn =>
  cases hn
  have hf := hf.v_inv
  subst hf
  -- the element's block
  generalize hone : (1 : Nat) = one at hv
  cases hv with
  | own0 hm => cases hone
  | @own _ _ _ _ vb vc cv tv hmv hhv hsv hnv hcv =>
  subst hone
  obtain ⟨RV, hrv⟩ := row_list (xs := [x]) hk he z (fun i hi => by
    have : i = 0 := by simpa using hi
    subst this
    rfl) (hrel.rel 1 (some vb) _ hmv rfl)
  simp only [List.flatMap_cons, List.flatMap_nil, List.append_nil] at hrv
  have hcvv : cv = (enc x ++ RV).toArray ∧ tv = ty := by
    have := hhv.symm.trans hrv
    injection this with this
    injection this with a1 a2 a3
    exact ⟨a1, a2⟩
  obtain ⟨rfl, rfl⟩ := hcvv
  have hVS : ∀ (j : Nat) v, (enc x)[j]? = some v → (enc x ++ RV).toArray[j]? = some v := fun j v hj => by
    simp only [List.getElem?_toArray]
    rw [List.getElem?_append_left (List.getElem?_eq_some_iff.1 hj).1, hj]
  simp only [Nat.zero_mul] at *
  rcases Nat.lt_or_ge q xs.length with hq | hq
  · -- in the midst
    generalize hN : xs.length = N at ha
    cases ha with
    | own0 hm => omega
    | @own _ _ _ _ b c cs ty' hm hh hs' hn hcap =>
    subst hN
    obtain ⟨R, hr⟩ := row_list (xs := xs) hk he z (fun i _ => rfl) (hrel.rel 0 (some b) _ hm rfl)
    have hcc : cs = (xs.flatMap enc ++ R).toArray ∧ ty' = tv := by
      have := hh.symm.trans hr
      injection this with this
      injection this with a1 a2 a3
      exact ⟨a1, a2⟩
    obtain ⟨rfl, rfl⟩ := hcc
    have hvb : vb ≠ b := by
      rintro rfl
      have := hrel.apart 0 1 vb _ _ hm hmv rfl rfl rfl (by simp)
      omega
    rw [hAB] at hr hh hs'
    have hRl : R.length = (c - xs.length) * k := by
      simp only [List.size_toArray, List.length_append, hA, hB, Nat.zero_add] at hs'
      have : q * k + (xs.length - q) * k = xs.length * k := by rw [← Nat.add_mul]; congr 1; omega
      rw [Nat.sub_mul]
      omega
    simp only [Nat.zero_mul]
    by_cases hroom : xs.length + 1 ≤ c
    · have hkR : k ≤ R.length := by
        rw [hRl]
        exact Nat.le_mul_of_pos_left k (by omega)
      refine (hshift b xs.length c q vb vc _ _ R (enc x) _ X.w0 hq hroom (by unfold maxLen at hcap; omega) hvb hr hrv hA hB hkR (hk x) hVS h1B (h1 x)).mono ?_
      rintro e0 w' ⟨rfl, rfl⟩
      rw [setRow_setRow]
      let C0 : Conf := (⟨X.μ0, [.flat false k ty' xs.length (vec e z xs), .flat false k ty' 1 (fun j => [e x].getD j [])], X.w0⟩ : Conf).drew
      have hC0 : HRel X C0 := hrel.drew
      have hsz : ((xs.take q).flatMap enc ++ enc x ++ (xs.drop q).flatMap enc ++ R.drop k).toArray.size = ((xs.take q).flatMap enc ++ (xs.drop q).flatMap enc ++ R).toArray.size := by
        simp only [List.size_toArray, List.length_append, List.length_drop, hk]
        omega
      have tu : Turns X C0 0 b (.flat false k ty' xs.length (vec e z xs)) (.flat false k ty' ys.length (vec e z ys)) (X.w0.drew.setRow b ((xs.take q).flatMap enc ++ enc x ++ (xs.drop q).flatMap enc ++ R.drop k).toArray) :=
        setRow_turns hC0 hm rfl rfl hr hsz
      have hat : (X.w0.drew.setRow b ((xs.take q).flatMap enc ++ enc x ++ (xs.drop q).flatMap enc ++ R.drop k).toArray).heap[b]? = some (.cells (ys.flatMap enc ++ R.drop k).toArray ty' (0, 0)) := by
        rw [hflat]
        exact setRow_heap _ _ _ _ _ _ hr
      have h2 := HRel.turn hC0 tu (.inl (by simp)) (list_row hk he h1 z hat)
      have h3 := rel_renew (id := 0) (ob := some b) (r := .flat false k ty' ys.length (vec e z ys)) h2 hm (by simp [Conf.turn, C0, Conf.drew]) rfl
      have h4 := HRel.turn (id := 1) (b := vb) (r := .flat false k ty' 1 (fun j => [e x].getD j [])) (r' := .gone) h3 (gone_turns h3 (by
          have hmv' : X.μ0[1]? = some (some vb) := hmv
          simp only [Conf.renew, Conf.turn, C0, Conf.drew]
          exact get_append_old hmv') (by simp [Conf.renew, Conf.turn, C0, Conf.drew]) rfl) (.inr rfl) trivial
      have hlm : X.μ0.length = 2 := hrel.len
      have hmu : (X.μ0 ++ [some b])[2]? = some (some b) := by
        rw [List.getElem?_append_right (by omega), hlm]
        rfl
      refine ⟨_, _, rfl, fin h4 (by simp [Conf.renew, Conf.turn, C0, Conf.drew]) ?_⟩
      rw [hlen]
      refine own_of (C := (Conf.renew (Conf.turn C0 0 _ _) 0 (some b) _).turn 1 .gone _) hmu hat ?_ hroom hcap
      rw [← hflat] at hsz
      rw [hsz, ← hs', Nat.zero_add]
    · refine (hgrow b xs.length c q vb vc _ _ R (enc x) _ X.w0 hq hn (by omega) hb hvb hr hrv hA hB (hk x) hVS h1B (h1 x)).mono ?_
      rintro e0 w' ⟨rfl, Z, hZ, rfl⟩
      have hG := grownCap_ge X.w0 (xs.length + 1) c ty'
      have hM := grownCap_le_maxLen X.w0 (xs.length + 1) c ty' (by unfold maxLen; omega)
      generalize grownCap X.w0 (xs.length + 1) c ty' = G at hG hM hZ ⊢
      have t1 := HRel.turn (id := 0) (b := b) (r := .flat false k ty' xs.length (vec e z xs)) (r' := .gone) hrel (gone_turns hrel hm rfl rfl) (.inr rfl) trivial
      have t2 := HRel.turn (id := 1) (b := vb) (r := .flat false k ty' 1 (fun j => [e x].getD j [])) (r' := .gone) t1 (gone_turns t1 hmv (by simp [Conf.turn]) rfl) (.inr rfl) trivial
      have hd := HRel.drew t2
      have hat : (X.w0.drew.alloc (.cells ((xs.take q).flatMap enc ++ enc x ++ (xs.drop q).flatMap enc ++ Z).toArray ty')).heap[X.w0.heap.size]? = some (.cells (ys.flatMap enc ++ Z).toArray ty' (0, 0)) := by
        rw [hflat]
        exact heap_alloc_new X.w0.drew _
      have hp := HRel.push hd (o := .cells ((xs.take q).flatMap enc ++ enc x ++ (xs.drop q).flatMap enc ++ Z).toArray ty') (r := .flat false k ty' ys.length (vec e z ys)) (list_row hk he h1 z hat)
      have hp2 := HRel.drew hp
      have hlm : X.μ0.length = 2 := hrel.len
      have hmu : (X.μ0 ++ [some X.w0.heap.size])[2]? = some (some X.w0.heap.size) := by
        rw [List.getElem?_append_right (by omega), hlm]
        rfl
      refine ⟨_, _, rfl, fin hp2 (by simp [Conf.push, Conf.turn, Conf.drew]) ?_⟩
      rw [hlen]
      refine own_of (C := Conf.drew (Conf.push (Conf.drew _) _ _)) hmu hat ?_ hG hM
      rw [List.size_toArray, List.length_append, hZ, len_flat hk, hlen, ← Nat.add_mul]
      congr 1
      omega
  · -- behind all
    have hqe : q = xs.length := by omega
    subst hqe
    have hyy : ys = xs ++ [x] := by rw [← hys, List.take_length, List.drop_length]
    have hvo := AVR.own (ok := (⟨X.μ0, [.flat false k tv xs.length (vec e z xs), .flat false k tv 1 (fun j => [e x].getD j [])], X.w0⟩ : Conf).ok X) (off := 0) hmv hhv hsv hnv hcv
    rw [Nat.zero_mul] at hvo
    obtain ⟨news, src⟩ := source_of hrel (SrcOf.own (id := 1) rfl) hvo
    have hgoal : ∀ (base : Option Addr) (c : Nat), xs.length ≤ c → c ≤ maxLen → (base = none → xs.length = 0 ∧ c = 0) →
        AVR X.w0 ((⟨X.μ0, [.flat false k tv xs.length (vec e z xs), .flat false k tv 1 (fun j => [e x].getD j [])], X.w0⟩ : Conf).ok X) X.μ0 (.own 0 k 0 xs.length) (.slice base xs.length c) →
        Calls X.P f #[.slice base xs.length c, .int .i64 xs.length, .slice (some ⟨vb, 0, none⟩) 1 vc] X.w0 fun e0 w' => ∃ v μ', e0 = .returned v ∧ Done X ⟨μ', [.gone, .gone, .flat false k tv ys.length (vec e z ys)], w'⟩ (.own 2 k 0 ys.length) v := by
      intro base c hnc hcap hnil hav
      obtain ⟨v', C', hrun, hrows, hrelC, hev, hav2⟩ := append_conf hT hrel (id := 0) (ty := t) (g' := vec e z ys) rfl hav ht hi hzs hk0 src hb (by omega)
        (fun i hi => by rw [hyy]; simp only [vec, List.getD_eq_getElem?_getD, List.getElem?_append_left hi])
        (fun i hi => by
          have : i = 0 := by omega
          subst this
          rw [hyy]
          simp [vec, List.getD_eq_getElem?_getD])
      refine (hend base xs.length c vb vc X.w0 C'.w v' hnc (by unfold maxLen at hcap; omega) hnil hrun).mono ?_
      rintro e0 w' ⟨rfl, rfl⟩
      have hmv2 : C'.μ[1]? = some (some vb) := hev.pre 1 _ hmv
      have hr1 : C'.rows[1]? = some (.flat false k tv 1 (fun j => [e x].getD j [])) := by rw [hrows]; rfl
      have h4 := HRel.turn (id := 1) (b := vb) (r' := .gone) hrelC (gone_turns hrelC hmv2 hr1 rfl) (.inr rfl) trivial
      refine ⟨v', _, rfl, fin (C' := C'.turn 1 .gone C'.w) h4 (by simp [Conf.turn, hrows, hlen]) ?_⟩
      rw [hlen]
      have hlt : (2 : Nat) = ([Row.flat false k tv xs.length (vec e z xs), .flat false k tv 1 (fun j => [e x].getD j [])] : List Row).length := rfl
      rw [← hlt] at hav2
      generalize hm2 : xs.length + 1 = m2 at hav2 ⊢
      cases hav2 with
      | own0 hm => exact .own0 hm
      | own hm hh hs hn hc => exact .own hm hh hs hn hc
    generalize hN : xs.length = N at ha hgoal
    have ha' := ha
    cases ha with
    | own0 hm => exact hgoal none 0 (Nat.le_refl _) (by unfold maxLen; omega) (fun _ => ⟨rfl, rfl⟩) ha'
    | own hm hh hs hn hc => exact hgoal _ _ hn hc (fun h => by cases h) ha'
end Go.Sy
