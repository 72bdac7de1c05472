/- Regions whose order is left open, by places. -/
import Derived.Test.YtboaahlhgekbbaaSyM
set_option linter.unusedVariables false
set_option linter.unusedSimpArgs false
namespace Go.Sy

def opsAt : List Item → Array Oper
  | .code (.region _ ops _) :: _ => ops
  | _ => #[]
def isDraw : List Item → Bool
  | .code (.region _ _ true) :: _ => true
  | _ => false

section
variable {X : Ctx} {T : Tab} {f : FuncId} {k : List Item} {Q : Frame → Frame → Conf → Prop} {nt : Nat} {rows : List Row} {ops : Array Oper} {m : Nat} {base : List (Nat × AV)} {Φ : List (Option AV)}

def OpAll (X : Ctx) (f : FuncId) (k : List Item) (Q : Frame → Frame → Conf → Prop) (nt : Nat) (rows : List Row) (ops : Array Oper) (base : List (Nat × AV)) (Φ : List (Option AV)) (m : Nat) : Prop := ∀ i, i < m → OpOk X f k Q nt rows ops base Φ i
theorem op0 : OpAll X f k Q nt rows ops base Φ 0 := fun i hi => by omega
theorem opS (h : OpAll X f k Q nt rows ops base Φ m) (p : OpOk X f k Q nt rows ops base Φ m) : OpAll X f k Q nt rows ops base Φ (m + 1) := fun i hi => by
  rcases Nat.lt_or_ge i m with h1 | h1
  · exact h i h1
  · have : i = m := by omega
    subst this
    exact p

theorem ak_drawAt (hm : X.P.follows .mixedOrders = true) (m : Nat) (S : List Nat) (base : List (Nat × AV)) (Φ : List (Option AV)) {st : St} (hd : isDraw k = true) (e : st.only S = ⟨nt, base, rows⟩) (hck : drawOk (opsAt k) m (base.map (·.1)) = true)
    (hop : OpAll X f k.tail Q nt rows (opsAt k) base Φ m) (hfin : AK X f (.inRegion (opsAt k) (List.range' m ((opsAt k).size - m)) :: k.tail) Q ⟨nt, finals (opsAt k) Φ m ++ base, rows⟩) : AK X f k Q st := by
  unfold isDraw at hd
  split at hd
  · exact ak_draw hm m S base Φ e hck hop hfin
  · cases hd

/-! ### Operations that lay or turn rows, one behind the other -/
def OpAllE (X : Ctx) (f : FuncId) (k : List Item) (Q : Frame → Frame → Conf → Prop) (nt : Nat) (rows : List Row) (ops : Array Oper) (base : List (Nat × AV)) (Φ : List (Option AV)) (E : List Nat) (m : Nat) : Prop := ∀ i, i < m → i ∉ E → OpOk X f k Q nt rows ops base Φ i
variable {E : List Nat}
theorem opE0 : OpAllE X f k Q nt rows ops base Φ E 0 := fun i hi => by omega
theorem opES (h : OpAllE X f k Q nt rows ops base Φ E m) (p : OpOk X f k Q nt rows ops base Φ m) : OpAllE X f k Q nt rows ops base Φ E (m + 1) := fun i hi hne => by
  rcases Nat.lt_or_ge i m with h1 | h1
  · exact h i h1 hne
  · have : i = m := by omega
    subst this
    exact p
theorem opEX (h : OpAllE X f k Q nt rows ops base Φ E m) (he : E.contains m = true) : OpAllE X f k Q nt rows ops base Φ E (m + 1) := fun i hi hne => by
  rcases Nat.lt_or_ge i m with h1 | h1
  · exact h i h1 hne
  · have : i = m := by omega
    subst this
    exact absurd (by simpa using he) hne

/-- Each stage's rows, and what each stage asks. -/
def Stages (X : Ctx) (f : FuncId) (k : List Item) (Q : Frame → Frame → Conf → Prop) (nt : Nat) (ops : Array Oper) (base : List (Nat × AV)) (Φ : List (Option AV)) (E : List Nat) (m : Nat) : List (List Row) → List Nat → Prop
  | [rows], [] => OpAllE X f k Q nt rows ops base Φ E m
  | rows :: rows' :: rs, e :: es => OpAllE X f k Q nt rows ops base Φ E m ∧ OpEff X f k Q nt rows rows' ops base Φ e ∧ Stages X f k Q nt ops base Φ E m (rows' :: rs) es
  | _, _ => False
theorem Stages.at_ {ops : Array Oper} {base : List (Nat × AV)} {Φ : List (Option AV)} : ∀ {R : List (List Row)} {es : List Nat}, Stages X f k Q nt ops base Φ E m R es → R.length = es.length + 1 ∧ (∀ s, s ≤ es.length → OpAllE X f k Q nt (R.getD s []) ops base Φ E m) ∧ ∀ (j e : Nat), es[j]? = some e → OpEff X f k Q nt (R.getD j []) (R.getD (j + 1) []) ops base Φ e
  | [rows], [], h => ⟨rfl, fun s hs => by
      have : s = 0 := by simpa using hs
      subst this
      exact h, fun j e he => by simp at he⟩
  | rows :: rows' :: rs, e :: es, h => by
    obtain ⟨h1, h2, h3⟩ := h
    obtain ⟨a1, a2, a3⟩ := Stages.at_ h3
    refine ⟨by simp only [List.length_cons] at a1 ⊢; omega, fun s hs => ?_, fun j q hq => ?_⟩
    · cases s with
      | zero => exact h1
      | succ s => exact a2 s (by simpa using hs)
    · cases j with
      | zero =>
        simp at hq
        subst hq
        exact h2
      | succ j => exact a3 j q (by simpa using hq)
  | [], _, h => h.elim
  | [_], _ :: _, h => h.elim
  | _ :: _ :: _, [], h => h.elim

def chainOk (ops : Array Oper) (m : Nat) : List Nat → Bool
  | [] => true
  | [e] => Nat.blt e m
  | e :: e' :: es => Nat.blt e m && Nat.blt e e' && (ancs ops e' (depsAt ops e')).contains e && chainOk ops m (e' :: es)
theorem chain_of {ops : Array Oper} {m : Nat} : ∀ {E : List Nat}, chainOk ops m E = true → (∀ e ∈ E, e < m) ∧ E.Pairwise (· < ·) ∧ ∀ (j e e' : Nat), E[j]? = some e → E[j + 1]? = some e' → e ∈ ancs ops e' (depsAt ops e')
  | [], _ => ⟨fun _ h => by simp at h, .nil, fun _ _ _ h => by simp at h⟩
  | [e], h => ⟨fun x hx => by
      have : x = e := by simpa using hx
      subst this
      exact Nat.le_of_ble_eq_true h, by simp, fun j _ _ _ h => by simp at h⟩
  | e :: e' :: es, h => by
    simp only [chainOk, Bool.and_eq_true] at h
    obtain ⟨⟨⟨h1, h2⟩, h3⟩, h4⟩ := h
    obtain ⟨a1, a2, a3⟩ := chain_of h4
    have hlt : e < e' := Nat.le_of_ble_eq_true h2
    refine ⟨fun x hx => ?_, ?_, fun j x y hx hy => ?_⟩
    · rcases List.mem_cons.1 hx with rfl | hx
      · exact Nat.le_of_ble_eq_true h1
      · exact a1 x hx
    · rw [List.pairwise_cons]
      refine ⟨fun y hy => ?_, a2⟩
      rcases List.mem_cons.1 hy with rfl | hy
      · exact hlt
      · exact Nat.lt_trans hlt ((List.pairwise_cons.1 a2).1 y hy)
    · cases j with
      | zero =>
        simp at hx hy
        subst hx
        subst hy
        simpa using h3
      | succ j => exact a3 j x y (by simpa using hx) (by simpa using hy)

theorem ak_drawAtE (hm : X.P.follows .mixedOrders = true) (m : Nat) (E : List Nat) (S : List Nat) (base : List (Nat × AV)) (Φ : List (Option AV)) (R : List (List Row)) {st : St} (hd : isDraw k = true) (e : st.only S = ⟨nt, base, R.getD 0 []⟩) (hck : drawOk (opsAt k) m (base.map (·.1)) = true) (hch : chainOk (opsAt k) m E = true)
    (hs : Stages X f k.tail Q nt (opsAt k) base Φ E m R E)
    (hfin : AK X f (.inRegion (opsAt k) (List.range' m ((opsAt k).size - m)) :: k.tail) Q ⟨nt, finals (opsAt k) Φ m ++ base, R.getD E.length []⟩) : AK X f k Q st := by
  unfold isDraw at hd
  split at hd
  · obtain ⟨a1, a2, a3⟩ := hs.at_
    obtain ⟨b1, b2, b3⟩ := chain_of hch
    exact ak_drawR (rw_ := fun s => R.getD s []) (E := E) hm m S base Φ e hck ⟨b1, b2.imp (fun h => Nat.ne_of_lt h), b3⟩ (fun i hi hne s hs => a2 s hs i hi hne) a3 hfin
  · cases hd

/-- Each operation where it may still come. -/
def OpMay (X : Ctx) (f : FuncId) (k : List Item) (Q : Frame → Frame → Conf → Prop) (nt : Nat) (rows : List Row) (ops : Array Oper) (base : List (Nat × AV)) (Φ : List (Option AV)) (E : List Nat) (s m : Nat) : Prop := ∀ i, i < m → i ∉ E → mayAt ops E i s = true → OpOk X f k Q nt rows ops base Φ i
theorem opM0 {s : Nat} : OpMay X f k Q nt rows ops base Φ E s 0 := fun i hi => by omega
theorem opMS {s : Nat} (h : OpMay X f k Q nt rows ops base Φ E s m) (p : OpOk X f k Q nt rows ops base Φ m) : OpMay X f k Q nt rows ops base Φ E s (m + 1) := fun i hi hne hm => by
  rcases Nat.lt_or_ge i m with h1 | h1
  · exact h i h1 hne hm
  · have : i = m := by omega
    subst this
    exact p
theorem opMX {s : Nat} (h : OpMay X f k Q nt rows ops base Φ E s m) (he : E.contains m = true) : OpMay X f k Q nt rows ops base Φ E s (m + 1) := fun i hi hne hm => by
  rcases Nat.lt_or_ge i m with h1 | h1
  · exact h i h1 hne hm
  · have : i = m := by omega
    subst this
    exact absurd (by simpa using he) hne
theorem opMN {s : Nat} (h : OpMay X f k Q nt rows ops base Φ E s m) (he : mayAt ops E m s = false) : OpMay X f k Q nt rows ops base Φ E s (m + 1) := fun i hi hne hm => by
  rcases Nat.lt_or_ge i m with h1 | h1
  · exact h i h1 hne hm
  · have : i = m := by omega
    subst this
    rw [he] at hm
    cases hm
def StagesM (X : Ctx) (f : FuncId) (k : List Item) (Q : Frame → Frame → Conf → Prop) (nt : Nat) (ops : Array Oper) (base : List (Nat × AV)) (Φ : List (Option AV)) (E : List Nat) (m : Nat) : Nat → List (List Row) → List Nat → Prop
  | n, [rows], [] => OpMay X f k Q nt rows ops base Φ E n m
  | n, rows :: rows' :: rs, e :: es => OpMay X f k Q nt rows ops base Φ E n m ∧ OpEff X f k Q nt rows rows' ops base Φ e ∧ StagesM X f k Q nt ops base Φ E m (n + 1) (rows' :: rs) es
  | _, _, _ => False
theorem StagesM.at_ {ops : Array Oper} {base : List (Nat × AV)} {Φ : List (Option AV)} : ∀ {n : Nat} {R : List (List Row)} {es : List Nat}, StagesM X f k Q nt ops base Φ E m n R es → R.length = es.length + 1 ∧ (∀ s, s ≤ es.length → OpMay X f k Q nt (R.getD s []) ops base Φ E (n + s) m) ∧ ∀ (j e : Nat), es[j]? = some e → OpEff X f k Q nt (R.getD j []) (R.getD (j + 1) []) ops base Φ e
  | n, [rows], [], h => ⟨rfl, fun s hs => by
      have : s = 0 := by simpa using hs
      subst this
      exact h, fun j e he => by simp at he⟩
  | n, rows :: rows' :: rs, e :: es, h => by
    obtain ⟨h1, h2, h3⟩ := h
    obtain ⟨a1, a2, a3⟩ := StagesM.at_ h3
    refine ⟨by simp only [List.length_cons] at a1 ⊢; omega, fun s hs => ?_, fun j q hq => ?_⟩
    · cases s with
      | zero => exact h1
      | succ s =>
        have := a2 s (by simpa using hs)
        rw [show n + 1 + s = n + (s + 1) by omega] at this
        exact this
    · cases j with
      | zero =>
        simp at hq
        subst hq
        exact h2
      | succ j => exact a3 j q (by simpa using hq)
  | _, [], _, h => h.elim
  | _, [_], _ :: _, h => h.elim
  | _, _ :: _ :: _, [], h => h.elim
theorem ak_drawAtM (hm : X.P.follows .mixedOrders = true) (m : Nat) (E : List Nat) (S : List Nat) (base : List (Nat × AV)) (Φ : List (Option AV)) (R : List (List Row)) {st : St} (hd : isDraw k = true) (e : st.only S = ⟨nt, base, R.getD 0 []⟩) (hck : drawOk (opsAt k) m (base.map (·.1)) = true) (hch : chainOk (opsAt k) m E = true)
    (hs : StagesM X f k.tail Q nt (opsAt k) base Φ E m 0 R E)
    (hfin : AK X f (.inRegion (opsAt k) (List.range' m ((opsAt k).size - m)) :: k.tail) Q ⟨nt, finals (opsAt k) Φ m ++ base, R.getD E.length []⟩) : AK X f k Q st := by
  unfold isDraw at hd
  split at hd
  · obtain ⟨a1, a2, a3⟩ := hs.at_
    obtain ⟨b1, b2, b3⟩ := chain_of hch
    exact ak_drawRM (rw_ := fun s => R.getD s []) (E := E) hm m S base Φ e hck ⟨b1, b2.imp (fun h => Nat.ne_of_lt h), b3⟩ (fun i hi hne s hs hmay => a2 s hs i hi hne (by rw [Nat.zero_add]; exact hmay)) a3 hfin
  · cases hd

theorem op_goF (hT : TabOk X.P T) {i : Nat} {rows' : List Row} (e : ∀ R rest, sstep T (.inRegion ops (i :: R) :: k) ⟨nt, needOf ops base Φ i ++ rest, rows⟩ = some (.inRegion ops R :: k, ⟨nt, updOf (dstOf ops i) ((Φ[i]?).join) (needOf ops base Φ i ++ rest), rows'⟩)) :
    OpEff X f k Q nt rows rows' ops base Φ i := fun R rest h => sstep_sound hT (e R rest) h

/-- What an operation makes, said otherwise. -/
theorem op_goE (hT : TabOk X.P T) {i : Nat} {st' : List Nat → List (Nat × AV) → St} (e : ∀ R rest, sstep T (.inRegion ops (i :: R) :: k) ⟨nt, needOf ops base Φ i ++ rest, rows⟩ = some (.inRegion ops R :: k, st' R rest))
    (h : ∀ R rest, st' R rest = ⟨nt, updOf (dstOf ops i) ((Φ[i]?).join) (needOf ops base Φ i ++ rest), rows⟩) : OpOk X f k Q nt rows ops base Φ i := fun R rest hh => sstep_sound hT (e R rest) (by rw [h]; exact hh)
end
end Go.Sy
