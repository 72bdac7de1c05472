/- slices.SortFunc as a contract: the kit's theorem on the row, turned to rows and values. -/
import Derived.Test.YtboaahlhgekbbaaSyR
import Derived.Shelf.SlSortCmp.NoneTotal
set_option linter.unusedVariables false
set_option linter.unusedSimpArgs false
namespace Go.Sy
open Go.Proofs Go.Shelf Go.Sort Go.Lib

/-! ### Blocks behind the heap -/
section
variable {X : Ctx} {C : Conf}
def Conf.grown (C : Conf) (w' : World) : Conf := { C with w := w' }
structure Grown (w w' : World) : Prop where
  os : w'.os = w.os
  tape : w'.tape = w.tape
  output : w'.output = w.output ∧ w.drawn ≤ w'.drawn
  size : w.heap.size ≤ w'.heap.size
  old : ∀ b, b < w.heap.size → w'.heap[b]? = w.heap[b]?
theorem HRel.ext_grown (h : HRel X C) {w' : World} (g : Grown C.w w') {i : Nat} {m : Option Nat} {r : Row} (h1 : C.μ[i]? = some m) (h2 : C.rows[i]? = some r) : (∀ k, m = some k → w'.heap[k]? = C.w.heap[k]?) ∧ ∀ c ∈ r.ext C.w m, w'.heap[c]? = C.w.heap[c]? :=
  ⟨fun k e => g.old k (h.place i k (e ▸ h1)).2, fun c hc => g.old c (h.placeX i m c r h1 h2 hc).2⟩
theorem Conf.live_grown (h : HRel X C) {w' : World} (g : Grown C.w w') {b : Nat} : (C.grown w').live b ↔ C.live b := by
  constructor
  · rintro ⟨i, m, r, h1, h2, h3, h4⟩
    obtain ⟨q1, q2⟩ := h.ext_grown g h1 h2
    exact ⟨i, m, r, h1, h2, h3, (Row.hasB_frame r q1 q2).1 h4⟩
  · rintro ⟨i, m, r, h1, h2, h3, h4⟩
    obtain ⟨q1, q2⟩ := h.ext_grown g h1 h2
    exact ⟨i, m, r, h1, h2, h3, (Row.hasB_frame r q1 q2).2 h4⟩
theorem Ev.grown (h : HRel X C) {w' : World} (g : Grown C.w w') : Ev X C (C.grown w') :=
  ⟨g.size, fun b hb _ => g.old b hb, fun b _ hl hk => hl ((Conf.live_grown h g).1 hk), fun b cs ty hc => ⟨cs, (g.old b (Array.getElem?_eq_some_iff.1 hc).1).trans hc, rfl⟩, fun _ _ hx => hx⟩
theorem HRel.grown (h : HRel X C) {w' : World} (g : Grown C.w w') : HRel X (C.grown w') := by
  have ev := Ev.grown h g
  refine ⟨h.len, g.os.trans h.os, g.tape.trans h.tape, ⟨g.output.1.trans h.output.1, Nat.le_trans h.output.2 g.output.2⟩, Nat.le_trans h.size g.size, ?_, ?_, h.first, ?_, h.apart, ?_, ?_, ?_⟩
  · intro b hb ho
    rw [← h.keep b hb ho]
    exact g.old b (Nat.lt_of_lt_of_le hb h.size)
  · intro b cs ty hc
    obtain ⟨cs', h1, h2⟩ := h.shape b cs ty hc
    obtain ⟨cs2, h3, h4⟩ := ev.shape b cs' ty h1
    exact ⟨cs2, h3, h4.trans h2⟩
  · intro id b hb
    have := h.place id b hb
    exact ⟨this.1, Nat.lt_of_lt_of_le this.2 g.size⟩
  · intro i m b r h1 h2 h3
    obtain ⟨q1, q2⟩ := h.ext_grown g h1 h2
    rw [show (C.grown w').w = w' from rfl, Row.ext_frame r q1 q2] at h3
    have := h.placeX i m b r h1 h2 h3
    exact ⟨this.1, Nat.lt_of_lt_of_le this.2 g.size⟩
  · intro i j m n b r s h1 h2 h3 h4 h5 h6
    obtain ⟨q1, q2⟩ := h.ext_grown g h1 h3
    obtain ⟨q3, q4⟩ := h.ext_grown g h2 h4
    rw [show (C.grown w').w = w' from rfl] at h5 ⊢
    rw [Row.ext_frame r q1 q2] at h5
    rw [Row.ext_frame s q3 q4]
    exact h.apartX i j m n b r s h1 h2 h3 h4 h5 h6
  · intro id ob r h1 h2
    refine (h.rel id ob r h1 h2).mono ev.ok ev.same ev.pre ev.shape ?_ ?_
    · exact (h.ext_grown g h1 h2).1
    · exact (h.ext_grown g h1 h2).2
end

/-! ### The sort -/
/-- The sort of Go's slices.SortFunc on a list. -/
noncomputable def sortL {α : Type} (z : α) (cf : α → α → Int) (xs : List α) : List α :=
  letI : Inhabited α := ⟨z⟩
  (pdq (ltOf cf) xs.toArray 0 xs.toArray.size (Lib.bitLen xs.toArray.size) true true).toList

theorem sortL_perm {α : Type} (z : α) {cf : α → α → Int} (hO : SWO (ltOf cf)) (xs : List α) : (sortL z cf xs).Perm xs := by
  letI : Inhabited α := ⟨z⟩
  have h := (pdq_sorts (ltOf cf) hO xs.toArray 0 xs.toArray.size (Lib.bitLen xs.toArray.size) true true (Nat.zero_le _) (Nat.le_refl _) (Or.inl rfl)).1
  have h3 := h.2.2
  have hs := h.1
  have e1 : ∀ (A : Array α), A.extract 0 A.size = A := fun A => by simp
  rw [e1] at h3
  show (pdq (ltOf cf) xs.toArray 0 xs.toArray.size (Lib.bitLen xs.toArray.size) true true).toList.Perm xs
  generalize pdq (ltOf cf) xs.toArray 0 xs.toArray.size (Lib.bitLen xs.toArray.size) true true = Y at h3 hs ⊢
  rw [← hs, e1] at h3
  exact h3
theorem sortL_length {α : Type} (z : α) {cf : α → α → Int} (hO : SWO (ltOf cf)) (xs : List α) : (sortL z cf xs).length = xs.length := (sortL_perm z hO xs).length_eq
theorem sortL_sorted {α : Type} (z : α) {cf : α → α → Int} (hO : SWO (ltOf cf)) (xs : List α) : (sortL z cf xs).Pairwise fun x y => ltOf cf y x = false := by
  letI : Inhabited α := ⟨z⟩
  have h := pdq_sorts (ltOf cf) hO xs.toArray 0 xs.toArray.size (Lib.bitLen xs.toArray.size) true true (Nat.zero_le _) (Nat.le_refl _) (Or.inl rfl)
  have hl := sortL_length z hO xs
  have hs := h.2
  rw [List.pairwise_iff_getElem]
  intro i j hi hj hij
  have := hs i j (Nat.zero_le _) hij (by rw [hl] at hj; simpa using hj)
  have e : ∀ q (hq : q < (sortL z cf xs).length), (pdq (ltOf cf) xs.toArray 0 xs.toArray.size (Lib.bitLen xs.toArray.size) true true)[q]! = (sortL z cf xs)[q] := by
    intro q hq
    have hq' : q < (pdq (ltOf cf) xs.toArray 0 xs.toArray.size (Lib.bitLen xs.toArray.size) true true).size := by simpa [sortL] using hq
    rw [getElem!_pos _ q hq']
    simp [sortL]
  rw [e j hj, e i hi] at this
  exact this

theorem VRs.plain {w : World} {ok : Bool → Nat → Prop} : ∀ {cs vs : List Value}, VRs w ok (cs.map DV.v) vs → vs = cs
  | [], _, h => by cases h; rfl
  | c :: cs, _, h => by
    simp only [List.map_cons] at h
    cases h with
    | cons h1 h hs =>
      cases h with
      | v h => rw [VRs.plain hs]
theorem VRs.ofPlain {w : World} {ok : Bool → Nat → Prop} : ∀ {cs : List Value}, (∀ v ∈ cs, v.oneCell' = true) → VRs w ok (cs.map DV.v) cs
  | [], _ => .nil
  | c :: cs, h => .cons (h c (List.mem_cons_self ..)) (.v (h c (List.mem_cons_self ..))) (VRs.ofPlain fun v hv => h v (List.mem_cons_of_mem _ hv))

theorem sort_says {P : Program} {ρ : Ren} {α : Type} (L : SlLaysF0.n6 P ρ) (z : α) (k : Nat) (aE : ∀ w, (isAgg (ρ.t 24)).run P w = .ok true w) (zE : ∀ w, (Go.sizeOf (ρ.t 24)).run P w = .ok k w)
    (enc : α → List Value) (hk : ∀ x, (enc x).length = k) (h1 : ∀ x, ∀ v ∈ enc x, v.oneCell' = true) (e : α → List DV) (he : ∀ x, e x = (enc x).map DV.v) (cf : α → α → Int) (hO : SWO (ltOf cf)) (g : Nat)
    (eg : ∀ args w, (callFunc g args).run P w = .ok (.enter g args) w)
    (hc : ∀ (x y : α) (W : World), Calls P g #[.agg (enc x).toArray, .agg (enc y).toArray] W fun e w' => e = .returned (.int .i64 (cf x y)) ∧ ∃ q os', w' = grow (W.drewN q) os') {ty : TypeId} {xs : List α} (hsz : xs.length < 4611686018427387904) :
    Says P (ρ.f 6) [.flat false k ty xs.length (vec e z xs)] [.own 0 k 0 xs.length, .d (.fn g [])] [.flat false k ty (sortL z cf xs).length (vec e z (sortL z cf xs))] (.tup []) := by
  intro X vs hP hF hrel hargs
  subst hP
  have hlen := sortL_length z hO xs
  cases hargs with
  | cons ha hs =>
    cases hs with
    | cons hf hn =>
      cases hn
      cases hf with
      | d hf =>
        cases hf with
        | fn hf =>
          cases hf
          have nr : ∀ (n : Nat) (ys : List α), NR (.flat false k ty n (vec e z ys)) := fun n ys => nr_vec (fun x => by
            rw [he]
            have : ∀ cs : List Value, NLs (cs.map DV.v) := fun cs => by
              induction cs with
              | nil => exact .nil
              | cons c cs ih => exact .cons (.v _) ih
            exact this _)
          have fin : ∀ {C' : Conf}, HRel X C' → C'.rows = [.flat false k ty (sortL z cf xs).length (vec e z (sortL z cf xs))] → Done X ⟨C'.μ, [.flat false k ty (sortL z cf xs).length (vec e z (sortL z cf xs))], C'.w⟩ (.tup []) (.tuple #[]) := by
            intro C' h hr
            have h' : HRel X ⟨C'.μ, [.flat false k ty (sortL z cf xs).length (vec e z (sortL z cf xs))], C'.w⟩ := by rw [← hr]; exact h
            refine ⟨h', ?_, .tup .nil⟩
            intro j ob r e1 e2
            refine (h'.rel j ob r e1 e2).perm (fun _ h => ⟨rfl, h⟩) ?_
            have := List.mem_of_getElem? e2
            simp only [List.mem_singleton] at this
            subst this
            exact nr _ _
          generalize hN : xs.length = N at ha hlen
          cases ha with
          | own0 hm =>
            have hx : xs = [] := List.length_eq_zero_iff.1 hN
            have hy : sortL z cf xs = [] := List.length_eq_zero_iff.1 hlen
            refine (AnyF.slices_SortFunc_none L none 0 _ X.w0).mono ?_
            rintro e0 w' ⟨rfl, rfl⟩
            refine ⟨_, X.μ0, rfl, fin (C' := ⟨X.μ0, _, X.w0⟩) hrel ?_⟩
            subst hx
            rw [hy]
          | @own _ _ _ _ b c cs ty' hm hh hs' hn hcap =>
            letI : Inhabited α := ⟨z⟩
            have hrow := hrel.rel 0 (some b) _ hm rfl
            obtain ⟨cs2, vs, r1, r2, r3, r4, r5⟩ := hrow
            have hh2 : cs2 = cs ∧ ty = ty' := by
              have := r1.symm.trans hh
              injection this with this
              injection this with a1 a2 a3
              exact ⟨a1, a2⟩
            obtain ⟨rfl, rfl⟩ := hh2
            have hblk : b < X.w0.heap.size := (Array.getElem?_eq_some_iff.1 hh).1
            subst hN
            have hvs : ∀ i, i < xs.length → vs i = enc (xs.getD i z) := fun i hi => by
              have := r4 i hi
              simp only [vec, he] at this
              exact this.plain
            have hcell : ∀ i j, i < xs.length → j < k → cs2[i * k + j]? = some ((enc (xs.getD i z))[j]!) := fun i j hi hj => by
              refine r5 i j _ hi ?_
              rw [hvs i hi]
              have : j < (enc (xs.getD i z)).length := by rw [hk]; exact hj
              rw [getElem!_pos _ j this]
              exact List.getElem?_eq_getElem this
            have hHolds : HoldsK enc k X.w0 b 0 xs.toArray := by
              intro j hj
              rw [size_flatK] at hj
              simp only [List.size_toArray] at hj
              have k0 : 0 < k := by rcases Nat.eq_zero_or_pos k with h | h; · subst h; simp at hj
                                    · exact h
              have hd : j / k < xs.length := Nat.div_lt_of_lt_mul (by rw [Nat.mul_comm]; exact hj)
              have hm' : j % k < k := Nat.mod_lt _ k0
              rw [get_flatK _ _ _ _ (by simpa using hj)]
              have hc2 := hcell (j / k) (j % k) hd hm'
              rw [show j / k * k + j % k = j by rw [Nat.mul_comm]; exact Nat.div_add_mod j k] at hc2
              have hx : xs.toArray[j / k]! = xs.getD (j / k) z := by
                rw [getElem!_pos _ _ (by simpa using hd)]
                simp [hd]
              refine ⟨?_, ?_⟩
              · simp only [World.cell?, hh, hx]
                simpa using hc2
              · simp only [World.frozen?, hh]
                simp
            have hz0 : b * 1 = b := by omega
            have main := AnyQ.slices_SortFunc_eq L k aE zE enc hk h1 cf hO g #[] b 0 c xs.toArray X.w0 eg (fun m os dk _ x y => by simpa using hc x y _) hHolds hblk (by simpa using hsz)
            rw [show ([Value.slice (some ⟨b, 0 * k, none⟩) xs.length c, Value.func (.func g) #[] ([] : List Value).toArray] : List Value).toArray = #[.slice (some ⟨b, 0, none⟩) xs.toArray.size c, .func (.func g) #[] #[]] by simp]
            refine main.mono ?_
            rintro e0 w' ⟨rfl, n, os, rfl⟩
            have hyl : (pdq (ltOf cf) xs.toArray 0 xs.toArray.size (Lib.bitLen xs.toArray.size) true true).toList = sortL z cf xs := rfl
            generalize hY : pdq (ltOf cf) xs.toArray 0 xs.toArray.size (Lib.bitLen xs.toArray.size) true true = ya at hyl
            have hya : ya.size = xs.length := by rw [← hlen, ← hyl]; simp
            have hw1 : (putRowK enc k (Sort.ahead X.w0 n) b 0 ya).heap = X.w0.heap.modify b (onCells (putCells id 0 (flatK enc k ya))) := rfl
            let C0 : Conf := ⟨X.μ0, [.flat false k ty xs.length (vec e z xs)], X.w0⟩
            have hat : (putRowK enc k (Sort.ahead X.w0 n) b 0 ya).heap[b]? = some (.cells (putCells id 0 (flatK enc k ya) cs2) ty (0, 0)) := by
              rw [hw1]
              simp [Array.getElem?_modify, hh, onCells]
            have hsize : (putCells id 0 (flatK enc k ya) cs2).size = cs2.size := by simp [putCells]
            have tu : Turns X C0 0 b (.flat false k ty xs.length (vec e z xs)) (.flat false k ty (sortL z cf xs).length (vec e z (sortL z cf xs))) (putRowK enc k (Sort.ahead X.w0 n) b 0 ya) := by
              refine ⟨hm, rfl, rfl, rfl, rfl, ⟨rfl, Nat.le_add_right _ _⟩, ?_, ?_, ?_, fun _ _ => rfl, fun _ _ => rfl⟩
              · rw [hw1]; simp [C0]
              · intro q hq
                rw [hw1]
                simp [C0, Array.getElem?_modify, Ne.symm hq]
              · intro cs3 ty3 h3
                have : cs3 = cs2 ∧ ty3 = ty := by
                  have := h3.symm.trans hh
                  injection this with this
                  injection this with a1 a2 a3
                  exact ⟨a1, a2⟩
                obtain ⟨rfl, rfl⟩ := this
                exact ⟨_, hat, hsize⟩
            have hrow2 : ∀ (ok : Bool → Nat → Prop), RowRel (putRowK enc k (Sort.ahead X.w0 n) b 0 ya) ok X.μ0 (some b) (.flat false k ty (sortL z cf xs).length (vec e z (sortL z cf xs))) := by
              intro ok
              refine ⟨_, fun i => enc ((sortL z cf xs).getD i z), hat, ?_, fun i _ => hk _, fun i _ => ?_, ?_⟩
              · rw [hsize, hlen]; exact r2
              · simp only [vec, he]
                exact VRs.ofPlain (h1 _)
              · intro i j v hi hj
                have hjk : j < k := by
                  have := (List.getElem?_eq_some_iff.1 hj).1
                  rwa [hk] at this
                rw [hlen] at hi
                have lt : i * k + j < xs.length * k := by
                  have := Nat.mul_le_mul_right k (show i + 1 ≤ xs.length from hi)
                  rw [Nat.add_mul, Nat.one_mul] at this
                  omega
                have e1 : (i * k + j) / k = i := (blk_iff k i _ (by omega)).1 ⟨by omega, by omega⟩
                have e2 : (i * k + j) % k = j := by rw [Nat.mod_eq_sub_div_mul, e1]; omega
                have lt2 : i * k + j < cs2.size := Nat.lt_of_lt_of_le lt r2
                have lty : i * k + j < ya.size * k := by rw [hya]; exact lt
                simp only [putCells, Array.getElem?_mapIdx]
                rw [Array.getElem?_eq_getElem lt2]
                simp only [Option.map_some, Nat.zero_le, true_and, Nat.zero_add, size_flatK, lty, if_true, Nat.sub_zero, id]
                rw [get_flatK _ _ _ _ lty, e1, e2]
                have hyi : ya[i]! = (sortL z cf xs).getD i z := by
                  rw [getElem!_pos _ _ (by omega), ← hyl]
                  simp [hya, hi]
                rw [hyi]
                have : j < (enc ((sortL z cf xs).getD i z)).length := by rw [hk]; exact hjk
                rw [getElem!_pos _ j this, ← hj]
                exact (List.getElem?_eq_getElem this).symm
            have h2 := HRel.turn (C := C0) hrel tu (.inl (by simp)) (hrow2 _)
            have h3 := h2.grown (w' := sortWorldK enc k X.w0 b 0 n ya os) ⟨rfl, rfl, ⟨rfl, Nat.le_refl _⟩, by simp [sortWorldK, grow, Conf.turn], fun q hq => by
              simp only [sortWorldK, grow, Conf.turn] at hq ⊢
              exact Array.getElem?_append_left hq⟩
            exact ⟨_, X.μ0, rfl, fin h3 rfl⟩

theorem sort_saysN {P : Program} {ρ : Ren} {α : Type} (L : SlLaysF0.n6 P ρ) (z : α) (k : Nat) (aE : ∀ w, (isAgg (ρ.t 24)).run P w = .ok true w) (zE : ∀ w, (Go.sizeOf (ρ.t 24)).run P w = .ok k w)
    (enc : α → List Value) (hk : ∀ x, (enc x).length = k) (h1 : ∀ x, ∀ v ∈ enc x, v.oneCell' = true) (e : α → List DV) (he : ∀ x, e x = (enc x).map DV.v) (cf : α → α → Int) (hO : SWO (ltOf cf)) (g : Nat)
    (eg : ∀ args w, (callFunc g args).run P w = .ok (.enter g args) w)
    (hc : ∀ (x y : α) (W : World), Calls P g #[.agg (enc x).toArray, .agg (enc y).toArray] W fun e w' => e = .returned (.int .i64 (cf x y)) ∧ ∃ q os', w' = grow (W.drewN q) os') {ty : TypeId} {xs : List α} (hsz : xs.length < 4611686018427387904) :
    Says P (ρ.f 6) [.flat false k ty xs.length (vec e z xs)] [.own 0 k 0 xs.length, .d (.fn g [])] [.flat false k ty xs.length (vec e z (sortL z cf xs))] (.tup []) := by
  have h := sort_says L z k aE zE enc hk h1 e he cf hO g eg hc (ty := ty) hsz
  rw [sortL_length z hO xs] at h
  exact h

/-- A comparison that makes no row and is handed none: it draws and lays blocks, no more. -/
theorem cmp_calls {P : Program} {g : FuncId} {α : Type} {enc : α → List Value} {e : α → List DV} (h1 : ∀ x, ∀ v ∈ enc x, v.oneCell' = true) (he : ∀ x, e x = (enc x).map DV.v) {cf : α → α → Int}
    (hs : ∀ x y, Says P g [] [.d (.agg (e x)), .d (.agg (e y))] [] (.d (.v (.int .i64 (cf x y))))) (x y : α) (W : World) :
    Calls P g #[.agg (enc x).toArray, .agg (enc y).toArray] W fun e w' => e = .returned (.int .i64 (cf x y)) ∧ ∃ q os', w' = grow (W.drewN q) os' := by
  have h0 : HRel (lawCtx P W) ⟨[], [], W⟩ := ⟨rfl, rfl, rfl, ⟨rfl, Nat.le_refl _⟩, Nat.le_refl _, fun _ _ _ => rfl, fun _ _ _ k => ⟨_, k, rfl⟩, fun _ _ k => k, fun _ _ h => by simp at h, fun _ _ _ _ _ h => by simp at h, fun _ _ _ _ h => by simp at h, fun _ _ _ _ _ _ _ h => by simp at h, fun _ _ _ h => by simp at h⟩
  have hv : ∀ x, VR W ((⟨[], [], W⟩ : Conf).ok (lawCtx P W)) (.agg (e x)) (.agg (enc x).toArray) := fun x => by
    rw [he]
    exact .agg (VRs.ofPlain (h1 x))
  have := hs x y (lawCtx P W) [.agg (enc x).toArray, .agg (enc y).toArray] rfl (fun b hb => ⟨hb, by simp [Ctx.own0, lawCtx]⟩) h0 (.cons (.d (hv x)) (.cons (.d (hv y)) .nil))
  refine this.mono ?_
  rintro e0 w' ⟨v, μ', rfl, hd⟩
  have hr := hd.ret
  cases hr with
  | d hr =>
    cases hr with
    | v hr =>
      refine ⟨rfl, w'.drawn - W.drawn, w'.heap.extract W.heap.size w'.heap.size, ?_⟩
      have hk := hd.rel.keep
      have hsz := hd.rel.size
      have ho := hd.rel.output
      have hos := hd.rel.os
      have ht := hd.rel.tape
      simp only [lawCtx] at hk hsz ho hos ht
      have hh : w'.heap = W.heap ++ w'.heap.extract W.heap.size w'.heap.size := by
        apply Array.ext_getElem?
        intro i
        by_cases hi : i < W.heap.size
        · rw [Array.getElem?_append_left hi]
          exact hk i hi (by simp [Ctx.own0])
        · rw [Array.getElem?_append_right (by omega), Array.getElem?_extract]
          by_cases hi2 : i < w'.heap.size
          · rw [if_pos (by omega)]
            congr 1
            omega
          · rw [if_neg (by omega)]
            exact Array.getElem?_eq_none (by omega)
      cases w'
      cases W
      simp only at hh ho hos ht hsz ⊢
      obtain ⟨ho1, ho2⟩ := ho
      subst hos
      subst ht
      subst ho1
      simp only [grow, World.drewN, World.mk.injEq, true_and, and_true]
      exact ⟨hh, by omega⟩
end Go.Sy
