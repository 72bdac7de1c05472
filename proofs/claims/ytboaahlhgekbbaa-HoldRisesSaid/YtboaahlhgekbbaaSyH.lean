/- Entering a function, coming back from it, calling. -/
import Derived.Test.YtboaahlhgekbbaaSyG
set_option linter.unusedSectionVars false
set_option linter.unusedVariables false
set_option linter.unusedSimpArgs false
namespace Go.Sy

/-! ### What leads to nothing lent -/
mutual
inductive NL : DV → Prop
  | v (x : Value) : NL (.v x)
  | agg {xs : List DV} (h : NLs xs) : NL (.agg xs)
  | sl {n : Nat} {g : Nat → List DV} (h : ∀ i, i < n → NLs (g i)) : NL (.sl true n g)
  | sl0 (t : Bool) (g : Nat → List DV) : NL (.sl t 0 g)
  | rop {n : Nat} {g : Nat → List DV} {i off : Nat} (h : ∀ i, i < n → NLs (g i)) : NL (.rop true n g i off)
  | fn {f : FuncId} {xs : List DV} (h : NLs xs) : NL (.fn f xs)
  | ifc {t : TypeId} {x : DV} (h : NL x) : NL (.ifc t x)
inductive NLs : List DV → Prop
  | nil : NLs []
  | cons {x : DV} {xs : List DV} (h : NL x) (hs : NLs xs) : NLs (x :: xs)
end
mutual
inductive NA : AV → Prop
  | d {x : DV} (h : NL x) : NA (.d x)
  | agg {xs : List AV} (h : NAs xs) : NA (.agg xs)
  | tup {xs : List AV} (h : NAs xs) : NA (.tup xs)
  | own (id k off n : Nat) : NA (.own id k off n)
  | ptr (id k i off : Nat) : NA (.ptr id k i off)
  | win (id off n : Nat) : NA (.win id off n)
  | fn {f : FuncId} {xs : List AV} (h : NAs xs) : NA (.fn f xs)
  | ifc {t : TypeId} {x : AV} (h : NA x) : NA (.ifc t x)
inductive NAs : List AV → Prop
  | nil : NAs []
  | cons {x : AV} {xs : List AV} (h : NA x) (hs : NAs xs) : NAs (x :: xs)
end
inductive NR : Row → Prop
  | flat {fz : Bool} {k : Nat} {ty : TypeId} {n : Nat} {g : Nat → List DV} (h : ∀ i, i < n → NLs (g i)) : NR (.flat fz k ty n g)
  | box {ty : TypeId} {cs : List AV} (h : NAs cs) : NR (.box ty cs)
  | mix {k : Nat} {ty : TypeId} {n : Nat} {g : Nat → List AV} (h : ∀ i, i < n → NAs (g i)) : NR (.mix k ty n g)
  | gone : NR .gone
  | loop {l : Nat} {s : LoopState} {fn : FuncId} {nt : Nat} {is : List Nat} {xs : List AV} {ps : Array Tmp} {asg body : Code} (h : NAs xs) : NR (.loop l s fn nt is xs ps asg body)
  | dfr (D : Nat) : NR (.dfr D)
  | obj (o : ObjR) : NR (.obj o)

section
variable {w : World} {ok okr : Bool → Nat → Prop} {μ : List (Option Nat)} (hok : ∀ b, ok true b → okr true b)
include hok
mutual
theorem VR.perm : ∀ {x : DV} {v : Value}, VR w ok x v → NL x → VR w okr x v
  | _, _, .v h, _ => .v h
  | _, _, .agg h, .agg k => .agg (VRs.perm h k)
  | _, _, .sl0, _ => .sl0
  | _, _, .sl k vs h0 hc ho hl hr hm, .sl q => .sl k vs h0 hc (hok _ ho) hl (fun i hi => VRs.perm (hr i hi) (q i hi)) hm
  | _, _, .sl k vs h0 hc ho hl hr hm, .sl0 _ _ => absurd h0 (Nat.lt_irrefl 0)
  | _, _, .rop k vs hi ho hl hr hm, .rop q => .rop k vs hi (hok _ ho) hl (fun i hi => VRs.perm (hr i hi) (q i hi)) hm
  | _, _, .fn h, .fn k => .fn (VRs.perm h k)
  | _, _, .ifc h, .ifc k => .ifc (VR.perm h k)
theorem VRs.perm : ∀ {x : List DV} {v : List Value}, VRs w ok x v → NLs x → VRs w okr x v
  | _, _, .nil, _ => .nil
  | _, _, .cons h1 h hs, .cons k ks => .cons h1 (VR.perm h k) (VRs.perm hs ks)
end
mutual
theorem AVR.perm : ∀ {x : AV} {v : Value}, AVR w ok μ x v → NA x → AVR w okr μ x v
  | _, _, .d h, .d k => .d (VR.perm hok h k)
  | _, _, .agg h, .agg k => .agg (AVRs.perm h k)
  | _, _, .tup h, .tup k => .tup (AVRl.perm h k)
  | _, _, .own0 h, _ => .own0 h
  | _, _, .own h h1 h2 h3 h4, _ => .own h h1 h2 h3 h4
  | _, _, .ptr h, _ => .ptr h
  | _, _, .win h h1 h2, _ => .win h h1 h2
  | _, _, .fn h, .fn k => .fn (AVRs.perm h k)
  | _, _, .ifc h, .ifc k => .ifc (AVR.perm h k)
theorem AVRs.perm : ∀ {x : List AV} {v : List Value}, AVRs w ok μ x v → NAs x → AVRs w okr μ x v
  | _, _, .nil, _ => .nil
  | _, _, .cons h1 h hs, .cons k ks => .cons h1 (AVR.perm h k) (AVRs.perm hs ks)
theorem AVRl.perm : ∀ {x : List AV} {v : List Value}, AVRl w ok μ x v → NAs x → AVRl w okr μ x v
  | _, _, .nil, _ => .nil
  | _, _, .cons h hs, .cons k ks => .cons (AVR.perm h k) (AVRl.perm hs ks)
end
theorem RowRel.perm {ob : Option Nat} {r : Row} (h : RowRel w ok μ ob r) (hr : NR r) : RowRel w okr μ ob r := by
  cases ob with
  | none => cases r <;> first | exact h | exact ObjR.perm _ hok h
  | some b =>
    cases hr with
    | gone => trivial
    | loop k =>
      obtain ⟨h0, T, D, vs, h1, h2, h3, h4⟩ := h
      exact ⟨h0, T, D, vs, h1, h2, AVRl.perm hok h3 k, h4⟩
    | dfr D => exact h
    | obj o => exact o.perm hok h
    | flat k =>
      obtain ⟨cs, vs, h1, h2, h3, h4, h5⟩ := h
      exact ⟨cs, vs, h1, h2, h3, fun i hi => VRs.perm hok (h4 i hi) (k i hi), h5⟩
    | mix k =>
      obtain ⟨cs, vs, h1, h2, h3, h4, h5⟩ := h
      exact ⟨cs, vs, h1, h2, h3, fun i hi => AVRs.perm hok (h4 i hi) (k i hi), h5⟩
    | box k =>
      obtain ⟨vs, h1, h2⟩ := h
      exact ⟨vs, h1, AVRs.perm hok h2 k⟩
end

/-! ### Some of the rows, under other names -/
/-- Row j of 'rows2' is row sel[j] of 'rows'. -/
inductive Sel (rows : List Row) (ρ : Nat → Nat) : List Nat → List Row → Prop
  | nil : Sel rows ρ [] []
  | cons {id : Nat} {r : Row} {sel : List Nat} {rs : List Row} (h : rows[id]? = some (renR ρ r)) (hs : Sel rows ρ sel rs) : Sel rows ρ (id :: sel) (r :: rs)

theorem Sel.len {rows : List Row} {ρ : Nat → Nat} : ∀ {sel : List Nat} {rs : List Row}, Sel rows ρ sel rs → sel.length = rs.length
  | _, _, .nil => rfl
  | _, _, .cons _ hs => by simp [Sel.len hs]
theorem Sel.at_ {rows : List Row} {ρ : Nat → Nat} : ∀ {sel : List Nat} {rs : List Row}, Sel rows ρ sel rs → ∀ {j : Nat} {r : Row}, rs[j]? = some r → ∃ id, sel[j]? = some id ∧ rows[id]? = some (renR ρ r)
  | _, _, .nil, _, _, h => by simp at h
  | _, _, .cons h hs, 0, _, e => by simp at e; subst e; exact ⟨_, rfl, h⟩
  | _, _, .cons h hs, j + 1, _, e => by simpa using Sel.at_ hs (by simpa using e)

def selTo (sel : List Nat) (N : Nat) (j : Nat) : Nat := sel.getD j N

section
variable {X : Ctx} {C : Conf} {sel : List Nat} {rs : List Row}

def selConf (C : Conf) (sel : List Nat) (rs : List Row) : Conf := ⟨sel.map fun i => (C.μ[i]?).getD none, rs, C.w⟩

structure Picks (X : Ctx) (C : Conf) (sel : List Nat) (rs : List Row) : Prop where
  is : Sel C.rows (selTo sel C.rows.length) sel rs
  nodup : sel.Nodup
  first : ∀ j, j < X.μ0.length → sel[j]? = some j

theorem sel_mu (h : HRel X C) (p : Picks X C sel rs) {j : Nat} {x : Option Nat} : (selConf C sel rs).μ[j]? = some x ↔ ∃ id, sel[j]? = some id ∧ C.μ[id]? = some x := by
  simp only [selConf, List.getElem?_map, Option.map_eq_some_iff]
  constructor
  · rintro ⟨id, h1, h2⟩
    refine ⟨id, h1, ?_⟩
    have hj := (List.getElem?_eq_some_iff.1 h1).1
    rw [p.is.len] at hj
    obtain ⟨id', e1, e2⟩ := p.is.at_ (List.getElem?_eq_getElem hj)
    rw [h1] at e1
    injection e1 with e1
    subst e1
    obtain ⟨y, hy⟩ := h.muOf e2
    rw [hy] at h2 ⊢
    simpa using h2
  · rintro ⟨id, h1, h2⟩
    exact ⟨id, h1, by simp [h2]⟩

theorem sel_move (h : HRel X C) (p : Picks X C sel rs) {j : Nat} {x : Option Nat} (e : C.μ[selTo sel C.rows.length j]? = some x) : (selConf C sel rs).μ[j]? = some x := by
  rw [sel_mu h p]
  by_cases hj : j < sel.length
  · refine ⟨sel[j], List.getElem?_eq_getElem hj, ?_⟩
    simpa [selTo, List.getD_eq_getElem?_getD, List.getElem?_eq_getElem hj] using e
  · have := (List.getElem?_eq_some_iff.1 e).1
    simp only [selTo, List.getD_eq_getElem?_getD, List.getElem?_eq_none (Nat.le_of_not_lt hj), Option.getD_none] at this
    have := h.len
    omega

theorem sel_live (h : HRel X C) (p : Picks X C sel rs) {b : Nat} (e : (selConf C sel rs).live b) : C.live b := by
  obtain ⟨j, m, r, h1, h2, h3, h4⟩ := e
  obtain ⟨id, e1, e2⟩ := (sel_mu h p).1 h1
  obtain ⟨id', e3, e4⟩ := p.is.at_ h2
  rw [e1] at e3
  injection e3 with e3
  subst e3
  exact ⟨id, m, _, e2, e4, by rw [renR_live]; exact h3, (renR_hasB _ _ _ _ _).2 h4⟩

theorem sel_ok (h : HRel X C) (p : Picks X C sel rs) : ∀ t b, C.ok X t b → (selConf C sel rs).ok X t b := fun _ _ ⟨h1, h2, h3⟩ => ⟨h1, fun e => h2 (sel_live h p e), h3⟩

theorem sel_rel (h : HRel X C) (p : Picks X C sel rs) : HRel X (selConf C sel rs) := by
  have hat : ∀ {j : Nat} {x : Option Nat} {r : Row}, (selConf C sel rs).μ[j]? = some x → rs[j]? = some r → ∃ id, sel[j]? = some id ∧ C.μ[id]? = some x ∧ C.rows[id]? = some (renR (selTo sel C.rows.length) r) := by
    intro j x r h1 h2
    obtain ⟨id, e1, e2⟩ := (sel_mu h p).1 h1
    obtain ⟨id', e3, e4⟩ := p.is.at_ h2
    rw [e1] at e3
    injection e3 with e3
    subst e3
    exact ⟨id, e1, e2, e4⟩
  refine ⟨by simp [selConf, p.is.len], h.os, h.tape, h.output, h.size, h.keep, h.shape, ?_, ?_, ?_, ?_, ?_, ?_⟩
  · intro j x hx
    have hj := (List.getElem?_eq_some_iff.1 hx).1
    exact (sel_mu h p).2 ⟨j, p.first j hj, h.first j x hx⟩
  · intro j b hb
    obtain ⟨id, e1, e2⟩ := (sel_mu h p).1 hb
    exact h.place id b e2
  · intro i j b r s h1 h2 h3 h4 h5 h6
    obtain ⟨id, e1, e2, e3⟩ := hat h1 h3
    obtain ⟨jd, f1, f2, f3⟩ := hat h2 h4
    have := h.apart id jd b _ _ e2 f2 e3 f3 (by rw [renR_live]; exact h5) (by rw [ne_eq, renR_gone]; exact h6)
    subst this
    exact (List.getElem?_inj (List.getElem?_eq_some_iff.1 e1).1 p.nodup).1 (e1.trans f1.symm)
  · intro i m b r h1 h2 h3
    obtain ⟨id, e1, e2, e3⟩ := hat h1 h2
    exact h.placeX id m b _ e2 e3 (by rw [renR_ext]; exact h3)
  · intro i j m n b r s h1 h2 h3 h4 h5 h6
    obtain ⟨id, e1, e2, e3⟩ := hat h1 h3
    obtain ⟨jd, f1, f2, f3⟩ := hat h2 h4
    have := h.apartX id jd m n b _ _ e2 f2 e3 f3 (by rw [renR_ext]; exact h5) (by rw [ne_eq, renR_gone]; exact h6)
    refine ⟨this.1, fun h7 => ?_⟩
    have := this.2 (by rw [renR_ext]; exact h7)
    subst this
    exact (List.getElem?_inj (List.getElem?_eq_some_iff.1 e1).1 p.nodup).1 (e1.trans f1.symm)
  · intro j ob r h1 h2
    obtain ⟨id, e1, e2, e3⟩ := hat h1 h2
    exact (h.rel id ob _ e2 e3).unren (sel_ok h p) (fun _ _ e => sel_move h p e)

theorem sel_av (h : HRel X C) (p : Picks X C sel rs) {av : AV} {v : Value} (k : AVR C.w (C.ok X) C.μ (renA (selTo sel C.rows.length) av) v) : AVR C.w ((selConf C sel rs).ok X) (selConf C sel rs).μ av v :=
  k.unren (sel_ok h p) (fun _ _ e => sel_move h p e)
end

/-- Some rows alone, under new names: 'tm' is what is still known. -/
theorem ak_pick {X : Ctx} {f : FuncId} {k : List Item} {Q : Frame → Frame → Conf → Prop} {st : St} (sel : List Nat) (rs : List Row) (tm : List (Nat × AV)) (hs : Sel st.rows (selTo sel st.rows.length) sel rs) (hn : sel.Nodup)
    (h0 : sel.take X.μ0.length = List.range X.μ0.length) (ht : ∀ i av, tm.lookup i = some av → st.tm.lookup i = some (renA (selTo sel st.rows.length) av)) (h : AK X f k Q { nt := st.nt, tm := tm, rows := rs }) : AK X f k Q st := by
  intro a C hC b cs hb hk
  have p : Picks X C sel rs := by
    refine ⟨by rw [hC.rows]; exact hs, hn, fun j hj => ?_⟩
    have : (sel.take X.μ0.length)[j]? = some j := by rw [h0]; simp [hj]
    rw [List.getElem?_take_of_lt hj] at this
    exact this
  refine h a (selConf C sel rs) ⟨sel_rel hC.rel p, rfl, hC.defers, hC.nt, fun i av e => ?_⟩ b cs hb hk
  obtain ⟨v, h1, h2⟩ := hC.tm i _ (ht i av e)
  rw [← hC.rows] at h2
  exact ⟨v, h1, sel_av hC.rel p h2⟩

/-! ### Coming back -/
def retOf (tm : List (Nat × AV)) : List ResultVar → Option AV
  | [.tmp t] => tm.lookup t
  | [.tmp t, .tmp u] =>
    match tm.lookup t, tm.lookup u with
    | some a, some b => some (.tup [a, b])
    | _, _ => none
  | [.tmp t, .tmp u, .tmp v] =>
    match tm.lookup t, tm.lookup u, tm.lookup v with
    | some a, some b, some c => some (.tup [a, b, c])
    | _, _, _ => none
  | [] => some (.tup [])
  | _ => none

theorem retOf_run {X : Ctx} {st : St} {a : Act} {C : Conf} (h : Sim X st a C) {fn : Func} {av : AV} (e : retOf st.tm fn.results.toList = some av) :
    ∃ v, (results fn a.tmps).run X.P C.w = .ok v C.w ∧ AVR C.w (C.ok X) C.μ av v := by
  have hr : fn.results = fn.results.toList.toArray := by simp
  generalize fn.results.toList = l at e hr
  have get : ∀ {t : Nat} {x : AV}, st.tm.lookup t = some x → AVR C.w (C.ok X) C.μ x (a.tmps.getD t undef) := by
    intro t x ht
    obtain ⟨v, h1, h2⟩ := h.tm t x ht
    simpa [Array.getD_eq_getD_getElem?, h1] using h2
  unfold retOf at e
  split at e
  · exact ⟨_, by simp [results, hr], get e⟩
  · split at e
    · rename_i x y hx hy
      injection e with e
      subst e
      exact ⟨_, by simp [results, hr], .tup (.cons (get hx) (.cons (get hy) .nil))⟩
    · cases e
  · split at e
    · rename_i x y z hx hy hz
      injection e with e
      subst e
      exact ⟨_, by simp [results, hr], .tup (.cons (get hx) (.cons (get hy) (.cons (get hz) .nil)))⟩
    · cases e
  · injection e with e
    subst e
    exact ⟨_, by simp [results, hr], .tup .nil⟩
  · cases e

/-- What a walk of a function has to reach. -/
def Back (X : Ctx) (rowsOut : List Row) (ret : AV) (_ fr : Frame) (C : Conf) : Prop := ∃ v, C.rows = rowsOut ∧ Done X C ret v ∧ fr.leaving X.P C.w (.returned v)

theorem leaves_ret {X : Ctx} {f : FuncId} {fn : Func} {rowsOut : List Row} {ret av : AV} {st : St} {k : List Item} (hf : X.P.funcs[f]? = some fn) (e : retOf st.tm fn.results.toList = some av)
    (sel : List Nat) (hs : Sel st.rows (selTo sel st.rows.length) sel rowsOut) (hn : sel.Nodup) (h0 : sel.take X.μ0.length = List.range X.μ0.length) (hret : av = renA (selTo sel st.rows.length) ret)
    (nr : ∀ r ∈ rowsOut, NR r) (na : NA ret)
    (hstep : ∀ (a : Act) (C : Conf), a.defers = X.ds → ∀ (b : Frame) (cs : List Frame), b.fn = f → (b.kind = .normal ∧ b.roundOf = X.rnd) → ∃ fr, Steps X.P (lone (b.atR a k) cs C.w) (lone fr cs C.w) ∧ fr.fn = f ∧ fr.mode = .returning ∧ fr.defers = [] ∧ fr.kind = .normal ∧ fr.tmps = a.tmps) :
    AK X f k (Back X rowsOut ret) st := by
  intro a C hC b cs hb hk
  obtain ⟨v, h1, h2⟩ := retOf_run hC e
  have p : Picks X C sel rowsOut := by
    refine ⟨by rw [hC.rows]; exact hs, hn, fun j hj => ?_⟩
    have : (sel.take X.μ0.length)[j]? = some j := by rw [h0]; simp [hj]
    rw [List.getElem?_take_of_lt hj] at this
    exact this
  obtain ⟨fr, s1, s2, s3, s4, s5, s6⟩ := hstep a C hC.defers b cs hb hk
  have hrel := sel_rel hC.rel p
  have hokr : ∀ b, (selConf C sel rowsOut).ok X true b → (selConf C sel rowsOut).okR X true b := fun _ h => ⟨rfl, h⟩
  refine ⟨selConf C sel rowsOut, fr, ⟨v, rfl, ⟨hrel, ?_, ?_⟩, s3, s4, s5, fn, by rw [s2]; exact hf, by rw [s6]; exact h1⟩, s1, s2⟩
  · intro id ob r e1 e2
    exact (hrel.rel id ob r e1 e2).perm hokr (nr r (List.mem_of_getElem? e2))
  · rw [hret, ← hC.rows] at h2
    exact (sel_av hC.rel p h2).perm hokr na

theorem ak_ret {X : Ctx} {f : FuncId} {fn : Func} {rowsOut : List Row} {ret av : AV} {st : St} {k : List Item} (hf : X.P.funcs[f]? = some fn) (hX : X.ds = [] ∧ X.rnd = none) (e : retOf st.tm fn.results.toList = some av)
    (sel : List Nat) (hs : Sel st.rows (selTo sel st.rows.length) sel rowsOut) (hn : sel.Nodup) (h0 : sel.take X.μ0.length = List.range X.μ0.length) (hret : av = renA (selTo sel st.rows.length) ret)
    (nr : ∀ r ∈ rowsOut, NR r) (na : NA ret) : AK X f (.code .ret :: k) (Back X rowsOut ret) st :=
  leaves_ret hf e sel hs hn h0 hret nr na fun a C hd b cs hb hk => ⟨_, .one (stepR_ret (hk.2.trans hX.2)), hb, rfl, hd.trans hX.1, hk.1, rfl⟩
theorem ak_end {X : Ctx} {f : FuncId} {fn : Func} {rowsOut : List Row} {ret av : AV} {st : St} (hf : X.P.funcs[f]? = some fn) (hX : X.ds = [] ∧ X.rnd = none) (e : retOf st.tm fn.results.toList = some av)
    (sel : List Nat) (hs : Sel st.rows (selTo sel st.rows.length) sel rowsOut) (hn : sel.Nodup) (h0 : sel.take X.μ0.length = List.range X.μ0.length) (hret : av = renA (selTo sel st.rows.length) ret)
    (nr : ∀ r ∈ rowsOut, NR r) (na : NA ret) : AK X f [] (Back X rowsOut ret) st :=
  leaves_ret hf e sel hs hn h0 hret nr na fun a C hd b cs hb hk => ⟨_, .one (stepR_end (hk.2.trans hX.2)), hb, rfl, hd.trans hX.1, hk.1, rfl⟩

/-! ### Entering -/
def Ctx.plain (X : Ctx) : Ctx := { X with ds := [], rnd := none }
theorem HRel.plain {X : Ctx} {C : Conf} (h : HRel X C) : HRel X.plain C := ⟨h.len, h.os, h.tape, h.output, h.size, h.keep, h.shape, h.first, h.place, h.apart, h.placeX, h.apartX, h.rel⟩
theorem HRel.unplain {X : Ctx} {C : Conf} (h : HRel X.plain C) : HRel X C := ⟨h.len, h.os, h.tape, h.output, h.size, h.keep, h.shape, h.first, h.place, h.apart, h.placeX, h.apartX, h.rel⟩

def enterTm : Nat → List AV → List (Nat × AV)
  | _, [] => []
  | i, x :: xs => (i, x) :: enterTm (i + 1) xs

theorem enterTm_at : ∀ {xs : List AV} {j i : Nat} {av : AV}, (enterTm j xs).lookup i = some av → j ≤ i ∧ xs[i - j]? = some av
  | [], _, _, _, h => by simp [enterTm] at h
  | x :: xs, j, i, av, h => by
    simp only [enterTm, List.lookup_cons] at h
    split at h
    · rename_i e
      have e : i = j := by simpa using e
      subst e
      injection h with h
      subst h
      simp
    · rename_i e
      obtain ⟨h1, h2⟩ := enterTm_at h
      have : i - j = i - (j + 1) + 1 := by omega
      exact ⟨by omega, by rw [this]; simpa using h2⟩

theorem AVRl.length {w : World} {ok : Bool → Nat → Prop} {μ : List (Option Nat)} : ∀ {xs : List AV} {vs : List Value}, AVRl w ok μ xs vs → xs.length = vs.length
  | _, _, .nil => rfl
  | _, _, .cons _ hs => by simp [AVRl.length hs]

theorem says_of {P : Program} {f : FuncId} {fn : Func} {c : Code} {rowsIn rowsOut : List Row} {args : List AV} {ret : AV} {nt : Nat} (hf : P.funcs[f]? = some fn) (hb : fn.body = some c) (hn : fn.ntmps = nt) (hl : args.length ≤ nt)
    (h : ∀ X : Ctx, X.P = P → X.μ0.length = rowsIn.length → (X.ds = [] ∧ X.rnd = none) → AK X f [.code c] (Back X rowsOut ret) { nt := nt, tm := enterTm 0 args, rows := rowsIn }) : Says P f rowsIn args rowsOut ret := by
  intro X vs hP hX hrel hargs cs
  have hvl := hargs.length
  have hent : Frame.enter P f vs.toArray .normal =
      ({ (default : Frame) with fn := f, kind := .normal, roundOf := none } : Frame).atR { tmps := vs.toArray ++ Array.replicate (fn.ntmps - vs.toArray.size) undef, defers := [] } [.code c] := by
    simp [Frame.enter, Frame.atR, hf, hb]
  have hrel' : HRel X.plain ⟨X.μ0, rowsIn, X.w0⟩ := hrel.plain
  obtain ⟨C', fr, ⟨v, hq1, hq2, h4⟩, h2, h3⟩ := h X.plain hP hrel.len ⟨rfl, rfl⟩ { tmps := vs.toArray ++ Array.replicate (fn.ntmps - vs.toArray.size) undef, defers := [] } ⟨X.μ0, rowsIn, X.w0⟩
    ⟨hrel', rfl, rfl, by simp [hn]; omega, fun i av e => by
      obtain ⟨_, e2⟩ := enterTm_at e
      obtain ⟨u, h1, h2⟩ := hargs.at_ e2
      have hi := (List.getElem?_eq_some_iff.1 h1).1
      refine ⟨u, ?_, h2⟩
      rw [Array.getElem?_append_left (by simpa using hi)]
      simpa using h1⟩ { (default : Frame) with fn := f, kind := .normal, roundOf := none } cs rfl ⟨rfl, rfl⟩
  subst hP
  rw [← hent] at h2
  obtain ⟨μ', rows', w'⟩ := C'
  simp only at hq1
  subst hq1
  exact ⟨.returned v, w', fr, ⟨v, μ', rfl, ⟨hq2.rel.unplain, hq2.rows, hq2.ret⟩⟩, h2, h3, h4⟩

/-! ### Calling -/
def callAt (st : St) : List Item → Option (FuncId × List AV × Option Tmp × List Item)
  | .inRegion ops (i :: rest) :: k =>
    match ops[i]? with
    | some o =>
      match o.op with
      | .call c =>
        match c.callee with
        | .value g =>
          match guardOf st.tm ops o, valOf st.tm g, mapVal (valOf st.tm) c.args.toList with
          | some true, some (.fn fid caps), some xs => some (fid, xs ++ caps, o.dst, .inRegion ops rest :: k)
          | some true, some (.d (.fn fid caps)), some xs => some (fid, xs ++ caps.map .d, o.dst, .inRegion ops rest :: k)
          | _, _, _ => none
        | _ => none
      | _ => none
    | none => none
  | _ => none

theorem AVRl.append {w : World} {ok : Bool → Nat → Prop} {μ : List (Option Nat)} : ∀ {xs ys : List AV} {vs us : List Value}, AVRl w ok μ xs vs → AVRl w ok μ ys us → AVRl w ok μ (xs ++ ys) (vs ++ us)
  | _, _, _, _, .nil, k => k
  | _, _, _, _, .cons h hs, k => .cons h (AVRl.append hs k)
theorem AVRs.toL {w : World} {ok : Bool → Nat → Prop} {μ : List (Option Nat)} : ∀ {xs : List AV} {vs : List Value}, AVRs w ok μ xs vs → AVRl w ok μ xs vs
  | _, _, .nil => .nil
  | _, _, .cons _ h hs => .cons h (AVRs.toL hs)

/-- Is it a Go function with a body that the machine enters? -/
def Enters (P : Program) (g : FuncId) : Prop := ∀ (args : Array Value) (w : World), (callFunc g args).run P w = .ok (.enter g args) w

theorem enters_fn {P : Program} {g : FuncId} {fn : Func} (hf : P.funcs[g]? = some fn) (hn : (fn.name == "runtime.NumGoroutine") = false) (hb : fn.body.isNone = false) : Enters P g := by
  intro args w
  simp only [callFunc, Sem.run_bind, run_program, Result.andThen_ok, hf, hn, hb]
  rfl

theorem ak_call {X : Ctx} {f g : FuncId} {k k' : List Item} {Q : Frame → Frame → Conf → Prop} {st st' : St} {avs args : List AV} {dst : Option Tmp} (ids : List Nat) {rowsIn rowsOut : List Row} {ret : AV}
    (e : callAt st k = some (g, avs, dst, k')) (he : Enters X.P g) (hh : Hands st.rows ids rowsIn) (hp : PassL st.rows ids (moveTo ids st.rows.length) avs args) (hs : Says X.P g rowsIn args rowsOut ret)
    (hput : St.put { st with rows := afterCall st.rows ids rowsOut } dst (renA (moveTo ids st.rows.length) ret) = some st') (h : AK X f k' Q st') : AK X f k Q st := by
  unfold callAt at e
  split at e
  · rename_i ops i rest k0
    split at e
    · rename_i o ho
      split at e
      · rename_i c hc
        split at e
        · rename_i gv hg
          refine ak_step h fun a C hC b cs _ => ?_
          have hrun : ∃ vs, (execOp a.eval o).run X.P C.w = .ok (.enter g vs.toArray) C.w ∧ AVRl C.w (C.ok X) C.μ avs vs ∧ guardOf st.tm ops o = some true ∧ o.dst = dst ∧ k' = .inRegion ops rest :: k0 := by
            have key : ∀ (fid : FuncId) (caps : Array Value), a.eval gv = .func (.func fid) #[] caps → fid = g → (execOp a.eval o).run X.P C.w = .ok (.enter g (c.args.map a.eval ++ caps)) C.w := by
              rintro fid caps hv rfl
              simp only [execOp, hc, resolve, hg, hv, Deferred.ofValue, Sem.run_bind, Sem.run_pure, Result.andThen_ok, invoke]
              rw [he]
              simp
            split at e
            · rename_i fid caps xs h1 h2 h3
              injection e with e; injection e with e1 e; injection e with e2 e; injection e with e3 e4
              subst e1; subst e2
              have hv := hC.val _ _ h2
              obtain ⟨cs, hcs, hr⟩ : ∃ cs, a.eval gv = .func (.func fid) #[] cs.toArray ∧ AVRs C.w (C.ok X) C.μ caps cs := by
                generalize a.eval gv = u at hv
                cases hv with
                | fn hv => exact ⟨_, rfl, hv⟩
              refine ⟨c.args.toList.map a.eval ++ cs, ?_, (mapVal_rel hC.val h3).append hr.toL, h1, e3, e4.symm⟩
              rw [key fid cs.toArray hcs rfl]
              congr 2
              exact Array.ext' (by simp)
            · rename_i fid caps xs h1 h2 h3
              injection e with e; injection e with e1 e; injection e with e2 e; injection e with e3 e4
              subst e1; subst e2
              have hv := hC.val _ _ h2
              obtain ⟨cs, hcs, hr⟩ : ∃ cs, a.eval gv = .func (.func fid) #[] cs.toArray ∧ VRs C.w (C.ok X) caps cs := by
                generalize a.eval gv = u at hv
                cases hv with
                | d hv =>
                  cases hv with
                  | fn hv => exact ⟨_, rfl, hv⟩
              refine ⟨c.args.toList.map a.eval ++ cs, ?_, (mapVal_rel hC.val h3).append (hr.toA).toL, h1, e3, e4.symm⟩
              rw [key fid cs.toArray hcs rfl]
              congr 2
              exact Array.ext' (by simp)
            · cases e
          obtain ⟨vs, hx, hargs, hgd, hdst, rfl⟩ := hrun
          subst hdst
          rw [← hC.rows] at hh hp hput
          have hcall := hs (callCtx X C ids) vs rfl (callFits hC.rel hh) (callRel hC.rel hh) (passL_rel hC.rel hh hp hargs)
          obtain ⟨e, w', fr, ⟨v, μ', rfl, hd⟩, hsteps, _, hleave⟩ := hcall (b.atR a (.inRegion ops (i :: rest) :: k0) :: cs)
          have hgg := stepGR_op (P := X.P) (b := b) (k := k0) (cs := cs) (w := C.w) (rest := rest) ho (guard_wanted hC hgd)
          rw [Oper.semAt_eq _ _ _ (by intro c' hc'; rw [hc] at hc'; cases hc')] at hgg
          have henter : step X.P (lone (b.atR a (.inRegion ops (i :: rest) :: k0)) cs C.w) = .next (lone (Frame.enter X.P g vs.toArray .normal) (b.atR a (.inRegion ops (i :: rest) :: k0) :: cs) C.w) :=
            step_lone_go (by rw [hgg]; simp [stepG.apply, hx, Frame.atR])
          have hfin : (b.atR a (.inRegion ops (i :: rest) :: k0)).finish v = b.atR (a.put o.dst v) (.inRegion ops rest :: k0) := by
            rw [Frame.finish_atR, ho]; rfl
          have hsim : Sim X { st with rows := (backConf C ids μ' rowsOut w').rows } a (backConf C ids μ' rowsOut w') := hC.moved (back_ev hC.rel hh hd.rel) (back_rel hC.rel hh hd)
          refine ⟨_, backConf C ids μ' rowsOut w', hsim.put hput (back_ret hC.rel hh hd), .head henter (hsteps.trans (.one ?_))⟩
          rw [← hfin]
          exact step_leave_returned hleave
        · cases e
      · cases e
    · cases e
  · cases e
end Go.Sy
