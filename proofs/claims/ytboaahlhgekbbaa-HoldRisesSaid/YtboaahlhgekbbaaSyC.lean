/- What the operations make of abstract values. -/
import Derived.Test.YtboaahlhgekbbaaSyB
import Derived.Laws.Tables
import Derived.Laws.StructEq
set_option linter.unusedVariables false
set_option linter.unusedSimpArgs false
namespace Go.Sy

def cellsOf : AV → List AV
  | .agg xs => xs
  | .d (.agg xs) => xs.map .d
  | av => [av]

def isTup : AV → Bool
  | .tup _ => true
  | _ => false
def allD : List AV → Option (List DV)
  | [] => some []
  | .d x :: xs => (allD xs).map (x :: ·)
  | _ :: _ => none

def mkAgg (xs : List AV) : AV :=
  match allD xs with
  | some ds => .d (.agg ds)
  | none => .agg xs

def unV (op : UnOp) : Value → Option Value
  | .int k n =>
    match op with
    | .neg => some (.int k (k.wrap (0 - n)))
    | .xor => bitsI .xor k (if k.signed then -1 else k.max) n
    | _ => none
  | .bool b => match op with | .not => some (.bool !b) | _ => none
  | _ => none

/-- Is it a pointer that is not nil? -/
def isRef : AV → Bool
  | .ptr .. => true
  | .d (.rop ..) => true
  | .d (.fn ..) => true
  | .fn .. => true
  | .d (.v (.pointer (some _))) => true
  | _ => false

/-- '==' of what is not plain: with nil. -/
def nilEq (T : Tab) (t : TypeId) : AV → AV → Option Bool
  | .ptr .., .d (.v (.pointer none)) => if (T.ptrs.lookup t).isSome then some false else none
  | .d (.rop ..), .d (.v (.pointer none)) => if (T.ptrs.lookup t).isSome then some false else none
  | .d (.v (.pointer none)), .d (.v (.pointer none)) => if (T.ptrs.lookup t).isSome then some true else none
  | .d (.v (.pointer (some _))), .d (.v (.pointer none)) => if (T.ptrs.lookup t).isSome then some false else none
  | _, _ => none

def eqCell : Nat → DV → DV → Option Bool
  | 0, .v (.int k a), .v (.int k' b) => if k = k' then some (a == b) else none
  | 1, .v (.bool a), .v (.bool b) => some (a == b)
  | 2, .v (.string a), .v (.string b) => some (a.toList == b.toList)
  | _, _, _ => none
def eqCells : List Nat → List DV → List DV → Option Bool
  | [t], [x], [y] => eqCell t x y
  | t :: ts, x :: xs, y :: ys =>
    match eqCell t x y, eqCells ts xs ys with
    | some a, some b => some (a && b)
    | _, _ => none
  | _, _, _ => none
/-- '==' of two that are not plain. -/
def refEq (T : Tab) (t : TypeId) (a b : AV) : Option Bool :=
  match a, b with
  | .d (.agg xs), .d (.agg ys) =>
    match T.eqs.lookup t with
    | some tags => eqCells tags xs ys
    | none => none
  | a, b => nilEq T t a b

def mapVal (val : Operand → Option AV) : List Operand → Option (List AV)
  | [] => some []
  | x :: xs => match val x with
    | some a => (mapVal val xs).map (a :: ·)
    | none => none

def oneA : AV → Bool
  | .d (.agg _) => false
  | .agg _ => false
  | .tup _ => false
  | _ => true

def boolOk (T : Tab) (t : TypeId) : Value → Bool
  | .bool _ => T.bools.contains t
  | _ => true

def evalLen (T : Tab) (val : Operand → Option AV) : List Operand → List TypeId → Option AV
  | [x], [t] =>
    match val x with
    | some (.own _ _ _ n) => bif (T.slices.lookup t).isSome then some (.d (.v (.int .i64 n))) else none
    | some (.win _ _ n) => bif (T.slices.lookup t).isSome then some (.d (.v (.int .i64 n))) else none
    | some (.d (.sl _ n _)) => bif (T.slices.lookup t).isSome then some (.d (.v (.int .i64 n))) else none
    | some (.d (.v (.slice none 0 0))) => bif (T.slices.lookup t).isSome then some (.d (.v (.int .i64 0))) else none
    | some (.d (.v (.string s))) => bif T.strs.contains t then some (.d (.v (.int .i64 s.size))) else none
    | _ => none
  | _, _ => none
def evalMx (mx : Bool) (val : Operand → Option AV) : List Operand → Option AV
  | [x, y] =>
    match val x, val y with
    | some (.d (.v (.int k a))), some (.d (.v (.int _ b))) => some (.d (.v (.int k (bif mx then (if a < b then b else a) else (if b < a then b else a)))))
    | _, _ => none
  | _ => none
def evalCall (T : Tab) (val : Operand → Option AV) (c : Call) : Option AV :=
  match c.callee with
  | .builtin .len => evalLen T val c.args.toList c.argTypes.toList
  | .builtin .max => evalMx true val c.args.toList
  | .builtin .min => evalMx false val c.args.toList
  | _ => none

/-- The cells of a struct that is laid: field by field. -/
def fillA (pl : List (Nat × Nat)) (val : Operand → Option AV) : List AV → List (Nat × Operand) → Option (List AV)
  | cs, [] => some cs
  | cs, (i, x) :: rest =>
    match pl[i]?, val x with
    | some (off, n), some a => bif Nat.beq (cellsOf a).length n && Nat.ble (off + n) cs.length && !isTup a then fillA pl val (cs.take off ++ cellsOf a ++ cs.drop (off + n)) rest else none
    | _, _ => none

/-- The values of an operation that reads and writes no memory. -/
def evalPure (T : Tab) (val : Operand → Option AV) : Op → Option AV
  | .move x => val x
  | .assign x => val x
  | .pick c a b =>
    match val c with
    | some (.d (.v (.bool t))) => bif t then val a else val b
    | _ => none
  | .nilCheck x =>
    match val x with
    | some a => bif isRef a then some a else none
    | none => none
  | .binOp op t x y _ =>
    match val x, val y with
    | some (.d (.v u)), some (.d (.v v)) =>
      match binV op u v with
      | some z => bif boolOk T t u then some (.d (.v z)) else none
      | none =>
        match op with
        | .eql => (nilEq T t (.d (.v u)) (.d (.v v))).map fun b => .d (.v (.bool b))
        | .neq => (nilEq T t (.d (.v u)) (.d (.v v))).map fun b => .d (.v (.bool (!b)))
        | _ => none
    | some a, some b =>
      match op with
      | .eql => (refEq T t a b).map fun b => .d (.v (.bool b))
      | .neq => (refEq T t a b).map fun b => .d (.v (.bool (!b)))
      | _ => none
    | _, _ => none
  | .unOp op _ x =>
    match val x with
    | some (.d (.v u)) => (unV op u).map fun z => .d (.v z)
    | _ => none
  | .convert s d x =>
    match T.ints.lookup d, val x with
    | some k, some (.d (.v (.int _ n))) => bif T.has.contains s then some (.d (.v (.int k (k.wrap n)))) else none
    | none, some (.d (.v (.string b))) => bif T.strs.contains d && T.has.contains s then some (.d (.v (.string b))) else none
    | _, _ => none
  | .makeFunc (.func f) first caps => bif first.isEmpty then (match mapVal val caps.toList with | some xs => bif xs.all oneA then some (match allD xs with | some ds => .d (.fn f ds) | none => .fn f xs) else none | none => none) else none
  | .fieldAddr s x f =>
    match T.flds.lookup (s, f) with
    | some (off, ty) =>
      match T.info.lookup ty with
      | some (n + 1, _, _) =>
        match val x with
        | some (.ptr id k i o) => some (.ptr id k i (o + off))
        | some (.d (.rop t m g i o)) => some (.d (.rop t m g i (o + off)))
        | some (.d (.v (.pointer (some ⟨b, o, none⟩)))) => some (.d (.v (.pointer (some ⟨b, o + off, none⟩))))
        | _ => none
      | _ => none
    | none => none
  | .field s x f =>
    match T.flds.lookup (s, f) with
    | some (off, ty) =>
      match T.aggs.lookup ty, T.info.lookup ty, val x with
      | some true, some (n, _, _), some (.d (.agg xs)) => some (.d (.agg ((xs.drop off).take n)))
      | some true, some (n, _, _), some (.agg xs) => some (mkAgg ((xs.drop off).take n))
      | some false, some _, some (.d (.agg xs)) => xs[off]?.map .d
      | some false, some _, some (.agg xs) => xs[off]?
      | _, _, _ => none
    | none => none
  | .extract x i =>
    match val x with
    | some (.tup xs) => xs[i]?
    | _ => none
  | .makeInterface t x =>
    match T.ptrs.lookup t, val x with
    | some _, some (.d x) => some (.d (.ifc t x))
    | some _, some a => some (.ifc t a)
    | _, _ => none
  | .call c => evalCall T val c
  | .build t parts =>
    match T.strts.lookup t, T.info.lookup t with
    | some pl, some (_, _, z) => bif z.all (·.oneCell') then (fillA pl val (z.map fun v => .d (.v v)) parts.toList).map mkAgg else none
    | _, _ => none
  | _ => none

/-! ### It is so -/
section
variable {w : World} {ok : Bool → Nat → Prop} {μ : List (Option Nat)}

theorem allD_map : ∀ {xs : List AV} {ds : List DV}, allD xs = some ds → xs = ds.map .d
  | [], ds, h => by simp [allD] at h; simp [← h]
  | .d x :: xs, ds, h => by
    simp only [allD, Option.map_eq_some_iff] at h
    obtain ⟨l, hl, rfl⟩ := h
    simp [allD_map hl]
  | .agg _ :: _, _, h => by simp [allD] at h
  | .tup _ :: _, _, h => by simp [allD] at h
  | .own .. :: _, _, h => by simp [allD] at h
  | .ptr .. :: _, _, h => by simp [allD] at h
  | .win .. :: _, _, h => by simp [allD] at h
  | .fn .. :: _, _, h => by simp [allD] at h
  | .ifc .. :: _, _, h => by simp [allD] at h

theorem AVRs.toD : ∀ {ds : List DV} {vs : List Value}, AVRs w ok μ (ds.map .d) vs → VRs w ok ds vs
  | [], _, .nil => .nil
  | _ :: _, _, .cons h1 (.d h) hs => .cons h1 h (AVRs.toD hs)
theorem VRs.toA : ∀ {ds : List DV} {vs : List Value}, VRs w ok ds vs → AVRs w ok μ (ds.map .d) vs
  | [], _, .nil => .nil
  | _ :: _, _, .cons h1 h hs => .cons h1 (.d h) (VRs.toA hs)

theorem mkAgg_rel {xs : List AV} {vs : List Value} (h : AVRs w ok μ xs vs) : AVR w ok μ (mkAgg xs) (.agg vs.toArray) := by
  unfold mkAgg
  split
  · rename_i ds e
    rw [allD_map e] at h
    exact .d (.agg h.toD)
  · exact .agg h

theorem AVRs.drop : ∀ (n : Nat) {xs : List AV} {vs : List Value}, AVRs w ok μ xs vs → AVRs w ok μ (xs.drop n) (vs.drop n)
  | 0, _, _, h => h
  | _ + 1, _, _, .nil => .nil
  | n + 1, _, _, .cons _ _ hs => AVRs.drop n hs
theorem AVRs.take : ∀ (n : Nat) {xs : List AV} {vs : List Value}, AVRs w ok μ xs vs → AVRs w ok μ (xs.take n) (vs.take n)
  | 0, _, _, _ => by simpa using AVRs.nil
  | _ + 1, _, _, .nil => .nil
  | n + 1, _, _, .cons h1 h hs => .cons h1 h (AVRs.take n hs)
theorem AVRs.at_ : ∀ {i : Nat} {xs : List AV} {vs : List Value} {x : AV}, AVRs w ok μ xs vs → xs[i]? = some x → ∃ v, vs[i]? = some v ∧ AVR w ok μ x v ∧ v.oneCell' = true
  | _, _, _, _, .nil, h => by simp at h
  | 0, _, _, _, .cons h1 h hs, e => by simp at e; subst e; exact ⟨_, rfl, h, h1⟩
  | i + 1, _, _, _, .cons _ _ hs, e => by simpa using AVRs.at_ hs (by simpa using e)
theorem AVRs.append : ∀ {xs ys : List AV} {vs us : List Value}, AVRs w ok μ xs vs → AVRs w ok μ ys us → AVRs w ok μ (xs ++ ys) (vs ++ us)
  | _, _, _, _, .nil, k => k
  | _, _, _, _, .cons h1 h hs, k => .cons h1 h (AVRs.append hs k)
theorem VRs.drop : ∀ (n : Nat) {xs : List DV} {vs : List Value}, VRs w ok xs vs → VRs w ok (xs.drop n) (vs.drop n)
  | 0, _, _, h => h
  | _ + 1, _, _, .nil => .nil
  | n + 1, _, _, .cons _ _ hs => VRs.drop n hs
theorem VRs.take : ∀ (n : Nat) {xs : List DV} {vs : List Value}, VRs w ok xs vs → VRs w ok (xs.take n) (vs.take n)
  | 0, _, _, _ => by simpa using VRs.nil
  | _ + 1, _, _, .nil => .nil
  | n + 1, _, _, .cons h1 h hs => .cons h1 h (VRs.take n hs)
theorem VRs.at_ : ∀ {i : Nat} {xs : List DV} {vs : List Value} {x : DV}, VRs w ok xs vs → xs[i]? = some x → ∃ v, vs[i]? = some v ∧ VR w ok x v ∧ v.oneCell' = true
  | _, _, _, _, .nil, h => by simp at h
  | 0, _, _, _, .cons h1 h hs, e => by simp at e; subst e; exact ⟨_, rfl, h, h1⟩
  | i + 1, _, _, _, .cons _ _ hs, e => by simpa using VRs.at_ hs (by simpa using e)
theorem AVRl.at_ : ∀ {i : Nat} {xs : List AV} {vs : List Value} {x : AV}, AVRl w ok μ xs vs → xs[i]? = some x → ∃ v, vs[i]? = some v ∧ AVR w ok μ x v
  | _, _, _, _, .nil, h => by simp at h
  | 0, _, _, _, .cons h hs, e => by simp at e; subst e; exact ⟨_, rfl, h⟩
  | i + 1, _, _, _, .cons _ hs, e => by simpa using AVRl.at_ hs (by simpa using e)

theorem AVR.v_inv {x v : Value} (h : AVR w ok μ (.d (.v x)) v) : v = x := by
  cases h with
  | d h => cases h with | v _ => rfl
theorem AVR.own_inv {id k off n : Nat} {v : Value} (h : AVR w ok μ (.own id k off n) v) : ∃ A c, v = .slice A n c := by
  cases h with
  | own0 _ => exact ⟨_, _, rfl⟩
  | own _ _ _ _ _ => exact ⟨_, _, rfl⟩
theorem AVR.win_inv {id off n : Nat} {v : Value} (h : AVR w ok μ (.win id off n) v) : ∃ A c, v = .slice A n c := by
  cases h with
  | win _ _ _ => exact ⟨_, _, rfl⟩
theorem AVR.sl_inv {t : Bool} {n : Nat} {g : Nat → List DV} {v : Value} (h : AVR w ok μ (.d (.sl t n g)) v) : ∃ A c, v = .slice A n c := by
  cases h with
  | d h =>
    cases h with
    | sl0 => exact ⟨_, _, rfl⟩
    | sl => exact ⟨_, _, rfl⟩
theorem AVR.aggd_inv {xs : List DV} {v : Value} (h : AVR w ok μ (.d (.agg xs)) v) : ∃ cs, v = .agg cs.toArray ∧ VRs w ok xs cs := by
  cases h with
  | d h => cases h with | agg h => exact ⟨_, rfl, h⟩
theorem AVR.agg_inv {xs : List AV} {v : Value} (h : AVR w ok μ (.agg xs) v) : ∃ cs, v = .agg cs.toArray ∧ AVRs w ok μ xs cs := by
  cases h with
  | agg h => exact ⟨_, rfl, h⟩
theorem AVR.tup_inv {xs : List AV} {v : Value} (h : AVR w ok μ (.tup xs) v) : ∃ cs, v = .tuple cs.toArray ∧ AVRl w ok μ xs cs := by
  cases h with
  | tup h => exact ⟨_, rfl, h⟩
theorem AVR.ptr_inv {id k i off : Nat} {v : Value} (h : AVR w ok μ (.ptr id k i off) v) : ∃ b, μ[id]? = some (some b) ∧ v = .pointer (some ⟨b, i * k + off, none⟩) := by
  cases h with
  | ptr h => exact ⟨_, h, rfl⟩
theorem AVR.ref_inv {x : AV} {v : Value} (h : AVR w ok μ x v) (hr : isRef x = true) : (∃ a, v = .pointer (some a)) ∨ (∃ f c, v = .func (.func f) #[] c) := by
  cases h with
  | d h =>
    cases h with
    | rop => exact .inl ⟨_, rfl⟩
    | fn => exact .inr ⟨_, _, rfl⟩
    | v _ =>
      unfold isRef at hr
      split at hr <;> first | (rename_i e; cases e; exact .inl ⟨_, rfl⟩) | (exfalso; simp_all) | (rename_i e; cases e)
    | _ => simp [isRef] at hr
  | ptr => exact .inl ⟨_, rfl⟩
  | fn => exact .inr ⟨_, _, rfl⟩
  | _ => simp [isRef] at hr


theorem cellsOf_rel {av : AV} {v : Value} (h : AVR w ok μ av v) (ht : ∀ xs, av ≠ .tup xs) : AVRs w ok μ (cellsOf av) v.cells.toList := by
  cases h with
  | d h =>
    cases h with
    | agg h => simpa [cellsOf, Value.cells] using h.toA
    | v h => cases v <;> first | (simp [Value.oneCell'] at h; done) | exact .cons rfl (.d (.v rfl)) .nil
    | sl0 => exact .cons rfl (.d .sl0) .nil
    | sl k vs h0 hc hok hl hr hm => exact .cons rfl (.d (.sl k vs h0 hc hok hl hr hm)) .nil
    | rop k vs hi hok hl hr hm => exact .cons rfl (.d (.rop k vs hi hok hl hr hm)) .nil
    | fn h => exact .cons rfl (.d (.fn h)) .nil
    | ifc h => exact .cons rfl (.d (.ifc h)) .nil
  | agg h => simpa [cellsOf, Value.cells] using h
  | tup h => exact absurd rfl (ht _)
  | own0 h => exact .cons rfl (.own0 h) .nil
  | own h h1 h2 h3 h4 => exact .cons rfl (.own h h1 h2 h3 h4) .nil
  | ptr h => exact .cons rfl (.ptr h) .nil
  | win h h1 h2 => exact .cons rfl (.win h h1 h2) .nil
  | fn h => exact .cons rfl (.fn h) .nil
  | ifc h => exact .cons rfl (.ifc h) .nil
theorem isTup_ne {av : AV} (h : isTup av = false) : ∀ xs, av ≠ .tup xs := by
  rintro xs rfl
  cases h


theorem foldl_set : ∀ (us : List Value) (q : Nat) (c : Array Value), q + us.length ≤ c.size → us.toArray.zipIdx.foldl (fun cs (c, j) => cs.setIfInBounds (q + j) c) c = (c.toList.take q ++ us ++ c.toList.drop (q + us.length)).toArray := by
  intro us q c hc
  rw [← Array.foldl_toList]
  have gen : ∀ (us : List Value) (m : Nat) (c : Array Value), q + m + us.length ≤ c.size →
      (us.zipIdx m).foldl (fun cs (p : Value × Nat) => cs.setIfInBounds (q + p.2) p.1) c = (c.toList.take (q + m) ++ us ++ c.toList.drop (q + m + us.length)).toArray := by
    intro us
    induction us with
    | nil => intro m c _; simp
    | cons u us ih =>
      intro m c hc
      simp only [List.length_cons] at hc
      rw [List.zipIdx_cons, List.foldl_cons, ih (m + 1) _ (by simp; omega)]
      congr 1
      apply List.ext_getElem?
      intro r
      simp only [List.getElem?_append, List.length_append, List.length_take, Array.length_toList, List.length_cons, List.getElem?_take, List.getElem?_drop, Array.size_setIfInBounds, Array.getElem?_toList, List.getElem?_cons]
      have h1 : min (q + (m + 1)) c.size = q + m + 1 := by omega
      have h2 : min (q + m) c.size = q + m := by omega
      simp only [h1, h2]
      by_cases e1 : r < q + m
      · simp [e1, show r < q + m + 1 from by omega, show r < q + (m + 1) from by omega, show r < q + m + 1 + us.length from by omega, show r < q + m + (us.length + 1) from by omega, Array.getElem?_setIfInBounds, show ¬ q + m = r from by omega]
      · by_cases e2 : r = q + m
        · subst e2
          simp [show q + m < q + m + 1 + us.length from by omega, show q + m < q + (m + 1) from by omega, Array.getElem?_setIfInBounds, show q + m < c.size from by omega]
        · by_cases e3 : r < q + m + 1 + us.length
          · simp [e1, e3, show ¬ r < q + m + 1 from by omega, show r < q + m + (us.length + 1) from by omega, show ¬ r - (q + m) = 0 from by omega, show r - (q + m + 1) = r - (q + m) - 1 from by omega]
          · simp [e3, show ¬ r < q + m + (us.length + 1) from by omega, Array.getElem?_setIfInBounds, show ¬ q + m = q + (m + 1) + us.length + (r - (q + m + 1 + us.length)) from by omega]
            congr 1
            omega
  have := gen us 0 c (by simpa using hc)
  simpa using this

theorem fillA_run {pl : List (Nat × Nat)} {val : Operand → Option AV} {ρ : Operand → Value} (hρ : ∀ x av, val x = some av → AVR w ok μ av (ρ x)) : ∀ {parts : List (Nat × Operand)} {cs cs' : List AV} {vs : List Value},
    fillA pl val cs parts = some cs' → AVRs w ok μ cs vs → ∃ vs', Instr.fill (pl.toArray[·]?) vs.toArray (parts.map fun p => (p.1, ρ p.2)) = some vs'.toArray ∧ AVRs w ok μ cs' vs'
  | [], cs, cs', vs, h, hr => by
    simp only [fillA, Option.some.injEq] at h
    subst h
    exact ⟨vs, rfl, hr⟩
  | (i, x) :: parts, cs, cs', vs, h, hr => by
    simp only [fillA] at h
    split at h
    · rename_i off n a hp ha
      cases hb : (Nat.beq (cellsOf a).length n && Nat.ble (off + n) cs.length && !isTup a) with
      | false => rw [hb] at h; cases h
      | true =>
        rw [hb] at h
        simp only [Bool.and_eq_true, Bool.not_eq_true'] at hb
        have b1 := Nat.eq_of_beq_eq_true hb.1.1
        have b2 := Nat.le_of_ble_eq_true hb.1.2
        have hc := cellsOf_rel (hρ x a ha) (isTup_ne hb.2)
        have hvn : (ρ x).cells.size = n := by
          have := hc.length
          simp only [Array.length_toList] at this
          omega
        have hcl := hr.length
        obtain ⟨vs', h1, h2⟩ := fillA_run hρ h (((hr.take off).append hc).append (hr.drop (off + n)))
        refine ⟨vs', ?_, h2⟩
        rw [List.map_cons, Instr.fill]
        have hp' : pl.toArray[i]? = some (off, n) := by simpa using hp
        rw [hp']
        simp only
        rw [if_neg (by simp [hvn]; omega)]
        have hs := foldl_set (ρ x).cells.toList off vs.toArray (by simp [hvn]; omega)
        simp only [Array.toArray_toList] at hs
        rw [hs]
        have : (vs.toArray.toList.take off ++ (ρ x).cells.toList ++ vs.toArray.toList.drop (off + (ρ x).cells.toList.length)) = vs.take off ++ (ρ x).cells.toList ++ vs.drop (off + n) := by simp [hvn]
        rw [this]
        exact h1
    · cases h

theorem AVRs.consts {w : World} {ok : Bool → Nat → Prop} {μ : List (Option Nat)} : ∀ (cs : List Value), (∀ v ∈ cs, v.oneCell' = true) → AVRs w ok μ (cs.map fun v => .d (.v v)) cs
  | [], _ => .nil
  | c :: cs, h => .cons (h c (List.mem_cons_self ..)) (.d (.v (h c (List.mem_cons_self ..)))) (AVRs.consts cs fun v hv => h v (List.mem_cons_of_mem _ hv))

theorem unV_run {P : Program} {op : UnOp} {x z : Value} (h : unV op x = some z) : (Op.unary op x).run P w = .ok z w ∧ z.oneCell' = true := by
  unfold unV at h
  cases x <;> cases op <;> simp only [reduceCtorEq] at h
  · rename_i k
    injection h with h
    subst h
    exact ⟨by simp [Op.unary], rfl⟩
  · injection h with h
    subst h
    exact ⟨by simp [Op.unary, Op.intArith], rfl⟩
  · simp only [bitsI] at h
    injection h with h
    subst h
    exact ⟨by simp [Op.unary, Op.intBits], rfl⟩

variable {P : Program} {T : Tab} (hT : TabOk P T) {val : Operand → Option AV} {ρ : Operand → Value} (hρ : ∀ x av, val x = some av → AVR w ok μ av (ρ x))

theorem mapVal_rel (h1 : ∀ x av, val x = some av → AVR w ok μ av (ρ x)) : ∀ {l : List Operand} {xs : List AV}, mapVal val l = some xs → AVRl w ok μ xs (l.map ρ)
  | [], xs, h => by simp [mapVal] at h; subst h; exact .nil
  | x :: l, xs, h => by
    simp only [mapVal] at h
    split at h
    · rename_i a ha
      obtain ⟨ys, hy, rfl⟩ := Option.map_eq_some_iff.1 h
      exact .cons (h1 _ _ ha) (mapVal_rel h1 hy)
    · cases h
theorem oneA_rel {x : AV} {v : Value} (h : AVR w ok μ x v) (h1 : oneA x = true) : v.oneCell' = true := by
  cases h with
  | d h =>
    cases h with
    | v h => exact h
    | agg h => simp [oneA] at h1
    | _ => rfl
  | agg h => simp [oneA] at h1
  | tup h => simp [oneA] at h1
  | _ => rfl
theorem AVRl.ones : ∀ {xs : List AV} {vs : List Value}, AVRl w ok μ xs vs → xs.all oneA = true → AVRs w ok μ xs vs
  | _, _, .nil, _ => .nil
  | _, _, .cons h hs, h1 => by
    simp only [List.all_cons, Bool.and_eq_true] at h1
    exact .cons (oneA_rel h h1.1) h (AVRl.ones hs h1.2)

theorem run_equalIn_ptr (d : Nat) {t e : TypeId} (hu : P.underlying t = some (.pointer e)) (A : Option Addr) : (Op.equalIn (d + 1) t (.pointer A) (.pointer none)).run P w = .ok A.isNone w := by
  cases A <;> simp [Op.equalIn, run_underlying hu]
theorem run_equal_ptr {t e : TypeId} (hu : P.underlying t = some (.pointer e)) (A : Option Addr) : (Op.equal t (.pointer A) (.pointer none)).run P w = .ok A.isNone w := run_equalIn_ptr 9999 hu A
theorem binOp_eql_ptr (t : TypeId) (A B : Option Addr) : binOp .eql t (.pointer A) (.pointer B) = (do pure (.bool (← Op.equal t (.pointer A) (.pointer B)))) := by cases A <;> cases B <;> rfl
theorem binOp_neq_ptr (t : TypeId) (A B : Option Addr) : binOp .neq t (.pointer A) (.pointer B) = (do pure (.bool (!(← Op.equal t (.pointer A) (.pointer B))))) := by cases A <;> cases B <;> rfl

theorem nilEq_ptr (hT : TabOk P T) {t : TypeId} {a b : AV} {u v : Value} {r : Bool} (ra : AVR w ok μ a u) (rb : AVR w ok μ b v) (h : nilEq T t a b = some r) :
    ∃ A, u = .pointer A ∧ v = .pointer none ∧ A.isNone = r ∧ ∃ e, P.underlying t = some (.pointer e) := by
  have hp : ∀ {c : Bool}, (if (T.ptrs.lookup t).isSome then some c else none) = some r → c = r ∧ ∃ e, P.underlying t = some (.pointer e) := by
    intro c h
    split at h
    · rename_i hs
      obtain ⟨e, he⟩ := Option.isSome_iff_exists.1 hs
      injection h with h
      exact ⟨h, e, hT.ptrs.mem _ (lookup_mem he)⟩
    · cases h
  unfold nilEq at h
  split at h
  · obtain ⟨rfl, e⟩ := hp h
    cases ra
    cases rb with
    | d rb => cases rb; exact ⟨_, rfl, rfl, rfl, e⟩
  · obtain ⟨rfl, e⟩ := hp h
    cases ra with
    | d ra =>
      cases ra
      cases rb with
      | d rb => cases rb; exact ⟨_, rfl, rfl, rfl, e⟩
  · obtain ⟨rfl, e⟩ := hp h
    cases ra with
    | d ra =>
      cases ra
      cases rb with
      | d rb => cases rb; exact ⟨_, rfl, rfl, rfl, e⟩
  · obtain ⟨rfl, e⟩ := hp h
    cases ra with
    | d ra =>
      cases ra
      cases rb with
      | d rb => cases rb; exact ⟨_, rfl, rfl, rfl, e⟩
  · cases h

theorem nilEq_run (hT : TabOk P T) {op : BinOp} {t : TypeId} {x y : Operand} {a b : AV} {u v : Value} {r : Bool} (ra : AVR w ok μ a u) (rb : AVR w ok μ b v) (h : nilEq T t a b = some r) :
    (op = .eql → (do eqGuard op t x y u v; binOp op t u v).run P w = .ok (.bool r) w) ∧ (op = .neq → (do eqGuard op t x y u v; binOp op t u v).run P w = .ok (.bool (!r)) w) := by
  obtain ⟨A, rfl, rfl, rfl, e, hu⟩ := nilEq_ptr hT ra rb h
  constructor <;> (rintro rfl; simp only [eqGuard_at_pointer, binOp_eql_ptr, binOp_neq_ptr, Sem.run_bind, Sem.run_pure, Result.andThen_ok, run_equal_ptr hu])

theorem eqCell_run (d : Nat) {ft : TypeId} {tag : Nat} {x y : DV} {u v : Value} {r : Bool} (ht : tagOk tag (P.underlying ft) = true) (h : eqCell tag x y = some r) (rx : VR w ok x u) (ry : VR w ok y v) :
    (Op.equalIn (d + 1) ft u v).run P w = .ok r w ∧ (isAgg ft).run P w = .ok false w := by
  unfold tagOk at ht
  split at ht
  · rename_i k hu
    refine ⟨?_, by simp [isAgg, run_underlying hu]⟩
    unfold eqCell at h
    split at h
    · split at h
      · rename_i e
        injection h with h
        subst h
        subst e
        cases rx
        cases ry
        exact run_equalIn_int w d ft _ _ _ _ hu
      · cases h
    · rename_i e; cases e
    · rename_i e; cases e
    · cases h
  · rename_i hu
    refine ⟨?_, by simp [isAgg, run_underlying hu]⟩
    unfold eqCell at h
    split at h
    · rename_i e; cases e
    · injection h with h
      subst h
      cases rx
      cases ry
      exact run_equalIn_bool' w d ft _ _ hu
    · rename_i e; cases e
    · cases h
  · rename_i hu
    refine ⟨?_, by simp [isAgg, run_underlying hu]⟩
    unfold eqCell at h
    split at h
    · rename_i e; cases e
    · rename_i e; cases e
    · injection h with h
      subst h
      cases rx
      cases ry
      exact run_equalIn_string w d ft _ _ hu
    · cases h
  · cases ht

theorem eqF_run (d : Nat) {A B : Array Value} : ∀ {fs : List Field} {tags : List Nat} {i : Nat} {xs ys : List DV} {r : Bool}, okEqF P i fs tags = true → eqCells tags xs ys = some r → VRs w ok xs (A.toList.drop i) → VRs w ok ys (B.toList.drop i) →
    (Op.eqFields (d + 1) A B fs).run P w = .ok r w
  | [], [], _, _, _, _, _, h, _, _ => by simp [eqCells] at h
  | [], _ :: _, _, _, _, _, h, _, _, _ => by simp [okEqF] at h
  | _ :: _, [], _, _, _, _, h, _, _, _ => by simp [okEqF] at h
  | f :: fs, t :: ts, i, xs, ys, r, h, he, rx, ry => by
    simp only [okEqF, Bool.and_eq_true, Bool.not_eq_true'] at h
    obtain ⟨⟨⟨h1, h2⟩, h3⟩, h4⟩ := h
    have h2 := Nat.eq_of_beq_eq_true h2
    have hn : f.name ≠ "_" := by simpa using h1
    obtain ⟨x, xs', y, ys', a, rfl, rfl, ha, hrest⟩ : ∃ x xs' y ys' a, xs = x :: xs' ∧ ys = y :: ys' ∧ eqCell t x y = some a ∧ ((ts = [] ∧ xs' = [] ∧ ys' = [] ∧ r = a) ∨ ∃ b, eqCells ts xs' ys' = some b ∧ r = (a && b)) := by
      unfold eqCells at he
      split at he
      · rename_i e
        injection e with e1 e2
        subst e1
        subst e2
        exact ⟨_, _, _, _, _, rfl, rfl, he, .inl ⟨rfl, rfl, rfl, rfl⟩⟩
      · rename_i e
        injection e with e1 e2
        subst e1
        subst e2
        split at he
        · rename_i a b ha hb
          injection he with he
          exact ⟨_, _, _, _, _, rfl, rfl, ha, .inr ⟨b, hb, he.symm⟩⟩
        · cases he
      · cases he
    obtain ⟨u, hu1, hu2, _⟩ := rx.at_ (i := 0) rfl
    obtain ⟨v, hv1, hv2, _⟩ := ry.at_ (i := 0) rfl
    obtain ⟨q1, q2⟩ := eqCell_run (P := P) d h3 ha hu2 hv2
    have p1 : (part f.type A f.offset).run P w = .ok u w := by
      have : A[i]? = some u := by simpa using hu1
      simp [part, q2, h2, this]
    have p2 : (part f.type B f.offset).run P w = .ok v w := by
      have : B[i]? = some v := by simpa using hv1
      simp [part, q2, h2, this]
    have e1 : A.toList.drop (i + 1) = (A.toList.drop i).drop 1 := by simp
    have e2 : B.toList.drop (i + 1) = (B.toList.drop i).drop 1 := by simp
    have rx' := rx.drop 1
    have ry' := ry.drop 1
    rw [← e1] at rx'
    rw [← e2] at ry'
    simp only [Op.eqFields, if_pos hn, Sem.run_bind, p1, p2, q1, Result.andThen_ok]
    rcases hrest with ⟨rfl, rfl, rfl, rfl⟩ | ⟨b, hb, rfl⟩
    · cases fs with
      | nil => cases r <;> simp [Op.eqFields]
      | cons g fs => simp [okEqF] at h4
    · have := eqF_run d h4 hb rx' ry'
      cases a
      · simp
      · simpa using this

theorem refEq_run (hT : TabOk P T) {op : BinOp} {t : TypeId} {x y : Operand} {a b : AV} {u v : Value} {r : Bool} (ra : AVR w ok μ a u) (rb : AVR w ok μ b v) (h : refEq T t a b = some r) :
    (op = .eql → (do eqGuard op t x y u v; binOp op t u v).run P w = .ok (.bool r) w) ∧ (op = .neq → (do eqGuard op t x y u v; binOp op t u v).run P w = .ok (.bool (!r)) w) := by
  unfold refEq at h
  split at h
  · rename_i xs ys
    split at h
    · rename_i tags htags
      obtain ⟨fs, hu, hst, hg, hf⟩ := hT.eq htags
      obtain ⟨cs, rfl, rx⟩ := ra.aggd_inv
      obtain ⟨ds, rfl, ry⟩ := rb.aggd_inv
      have key : (Op.equalIn 10000 t (.agg cs.toArray) (.agg ds.toArray)).run P w = .ok r w := by
        have hfo : P.fieldsOf t = fs := by simp [Program.fieldsOf, hu]
        rw [run_equalIn_struct (P := P) w 9999 t _ _ (by rw [hfo]; exact hu) hst, hfo]
        exact eqF_run 9998 hf h (by simpa using rx) (by simpa using ry)
      have hgd : ∀ op : BinOp, (op = .eql ∨ op = .neq) → (eqGuard op t x y (.agg cs.toArray) (.agg ds.toArray)).run P w = .ok () w := by
        rintro op (rfl | rfl) <;> simp [eqGuard, run_program, hg]
      constructor
      · rintro rfl
        rw [Sem.run_bind, hgd _ (.inl rfl), Result.andThen_ok, run_eql_struct, key]
        rfl
      · rintro rfl
        rw [Sem.run_bind, hgd _ (.inr rfl), Result.andThen_ok, run_neq_struct, key]
        rfl
    · cases h
  · exact nilEq_run hT ra rb h

include hT hρ in
theorem pure_binOp {op : BinOp} {t yt : TypeId} {x y : Operand} {av : AV} (h : evalPure T val (.binOp op t x y yt) = some av) :
    ∃ v, (do eqGuard op t x y (ρ x) (ρ y); binOp op t (ρ x) (ρ y)).run P w = .ok v w ∧ AVR w ok μ av v := by
  simp only [evalPure] at h
  split at h
  · rename_i u v hu hv
    have ru := hρ x _ hu
    have rv := hρ y _ hv
    split at h
    · rename_i z hz
      cases hc : boolOk T t u with
      | false => rw [hc] at h; cases h
      | true =>
        rw [hc] at h
        injection h with h
        subst h
        have eu : ρ x = u := ru.v_inv
        have ev : ρ y = v := rv.v_inv
        rw [eu, ev]
        refine ⟨z, binV_run hz ?_, .d (.v (binV_one hz))⟩
        rintro a b rfl rfl
        exact hT.bools.mem _ (by simpa [boolOk] using hc)
    · cases op <;> simp only [Option.map_eq_some_iff, reduceCtorEq] at h <;> obtain ⟨r, hr, rfl⟩ := h
      · exact ⟨_, (nilEq_run hT ru rv hr).1 rfl, .d (.v rfl)⟩
      · exact ⟨_, (nilEq_run hT ru rv hr).2 rfl, .d (.v rfl)⟩
  · rename_i a b _ hu hv
    cases op <;> simp only [Option.map_eq_some_iff, reduceCtorEq] at h <;> obtain ⟨r, hr, rfl⟩ := h
    · exact ⟨_, (refEq_run hT (hρ x _ hu) (hρ y _ hv) hr).1 rfl, .d (.v rfl)⟩
    · exact ⟨_, (refEq_run hT (hρ x _ hu) (hρ y _ hv) hr).2 rfl, .d (.v rfl)⟩
  · cases h

theorem run_asBool (b : Bool) : (asBool (.bool b)).run P w = .ok b w := rfl

include hT in
theorem run_fieldPlace {s f off ty n b : Nat} {z : List Value} (hf : T.flds.lookup (s, f) = some (off, ty)) (hi : T.info.lookup ty = some (n + 1, b, z)) (blk o : Nat) :
    (Instr.fieldAt s (.pointer (some ⟨blk, o, none⟩)) f).run P w = .ok (.pointer (some ⟨blk, o + off, none⟩)) w := by
  obtain ⟨fs, F, hu, hF, rfl, rfl⟩ := hT.fld hf
  have hs := hT.size hi
  simp [Instr.fieldAt, run_underlying hu, hF, Instr.sureAddr, fieldPlace, hs, Addr.add_lit]

include hT in
theorem run_part {ty n b off : Nat} {z : List Value} {g : Bool} (ha : T.aggs.lookup ty = some g) (hi : T.info.lookup ty = some (n, b, z)) (vs : List Value) (v : Value)
    (h : v = (if g then .agg ((vs.drop off).take n).toArray else v)) (h2 : g = false → vs[off]? = some v) : (part ty vs.toArray off).run P w = .ok v w := by
  have hs := hT.size hi
  have hg := hT.agg ha
  cases g with
  | true =>
    simp only [if_true] at h
    rw [h]
    simp only [part, Sem.run_bind, hg, Result.andThen_ok, if_true, hs, Sem.run_pure]
    congr 2
    apply Array.ext'
    simp [List.take_drop, Nat.add_comm]
  | false =>
    have := h2 rfl
    simp [part, hg, this]

include hT in
theorem run_lenSlice {t e : TypeId} (ht : T.slices.lookup t = some e) (A : Option Addr) (n c : Nat) (ty : TypeId) : (Builtin.len_ #[t] ty #[.slice A n c]).run P w = .ok (.int .i64 n) w := by
  simp [Builtin.len_, run_underlying (hT.slice ht), goInt]
include hT in
theorem run_lenStr {t : TypeId} (ht : T.strs.contains t = true) (s : ByteArray) (ty : TypeId) : (Builtin.len_ #[t] ty #[.string s]).run P w = .ok (.int .i64 s.size) w := by
  simp [Builtin.len_, run_underlying (hT.str ht), goInt]

include hT hρ in
theorem pure_run {o : Oper} {av : AV} (h : evalPure T val o.op = some av) : ∃ v, (execOp ρ o).run P w = .ok (.value v) w ∧ AVR w ok μ av v := by
  unfold execOp
  cases ho : o.op <;> rw [ho] at h <;> simp only [evalPure, reduceCtorEq] at h <;> try (dsimp only)
  case move x => exact ⟨_, rfl, hρ _ _ h⟩
  case assign x => exact ⟨_, rfl, hρ _ _ h⟩
  case pick c a b =>
    split at h
    · rename_i t hc
      have rc := hρ _ _ hc
      have ec : ρ c = .bool t := rc.v_inv
      rw [ec]
      cases t with
      | true => exact ⟨_, by simp [run_asBool], hρ _ _ h⟩
      | false => exact ⟨_, by simp [run_asBool], hρ _ _ h⟩
    · cases h
  case nilCheck x =>
    split at h
    · rename_i a ha
      have ra := hρ _ _ ha
      cases hr : isRef a with
      | false => rw [hr] at h; cases h
      | true =>
        rw [hr] at h
        injection h with h
        subst h
        refine ⟨ρ x, ?_, ra⟩
        rcases ra.ref_inv hr with ⟨q, e⟩ | ⟨f, c, e⟩ <;> rw [e] <;> rfl
    · cases h
  case binOp op t x y yt =>
    obtain ⟨v, h1, h2⟩ := pure_binOp (yt := yt) hT hρ (by simp only [evalPure]; exact h)
    exact ⟨v, by rw [Sem.run_bind, h1]; rfl, h2⟩
  case unOp op t x =>
    split at h
    · rename_i u hu
      obtain ⟨z, hz, rfl⟩ := Option.map_eq_some_iff.1 h
      have e : ρ x = u := (hρ _ _ hu).v_inv

      have k := unV_run (w := w) (P := P) hz
      exact ⟨z, by rw [e, Sem.run_bind, k.1]; rfl, .d (.v k.2)⟩
    · cases h
  case convert s d x =>
    split at h
    · rename_i k kk n hk hx
      cases hs : T.has.contains s with
      | false => rw [hs] at h; cases h
      | true =>
        rw [hs] at h
        injection h with h
        subst h
        obtain ⟨ds, hds⟩ := hT.hasT hs
        have e : ρ x = .int kk n := (hρ _ _ hx).v_inv

        refine ⟨.int k (k.wrap n), ?_, .d (.v rfl)⟩
        rw [e, Sem.run_bind]
        have : (convert s d (.int kk n)).run P w = .ok (.int k (k.wrap n)) w := by
          simp only [convert, Sem.run_bind, run_underlying hds, run_underlying (hT.int hk), Result.andThen_ok]
          cases ds <;> rfl
        rw [this]; rfl
    · rename_i b hk hx
      cases hs : (T.strs.contains d && T.has.contains s) with
      | false => rw [hs] at h; cases h
      | true =>
        rw [hs] at h
        injection h with h
        subst h
        simp only [Bool.and_eq_true] at hs
        obtain ⟨ds, hds⟩ := hT.hasT hs.2
        have e : ρ x = .string b := (hρ _ _ hx).v_inv

        refine ⟨.string b, ?_, .d (.v rfl)⟩
        rw [e, Sem.run_bind]
        have : (convert s d (.string b)).run P w = .ok (.string b) w := by
          simp only [convert, Sem.run_bind, run_underlying hds, run_underlying (hT.str hs.1), Result.andThen_ok]
          cases ds <;> rfl
        rw [this]; rfl
    · cases h
  case build t parts =>
    split at h
    · rename_i pl s b z hp hi
      cases hz : z.all (·.oneCell') with
      | false => rw [hz] at h; cases h
      | true =>
        rw [hz] at h
        obtain ⟨cs', hf, rfl⟩ := Option.map_eq_some_iff.1 h
        obtain ⟨fs, hu, hm⟩ := hT.strt hp
        obtain ⟨i0, hi0, _, _, hz0⟩ := hT.infoAt hi
        obtain ⟨zv, hzv, hzc⟩ := Option.map_eq_some_iff.1 hz0
        obtain ⟨vs', h1, h2⟩ := fillA_run hρ hf (AVRs.consts z fun v hv => List.all_eq_true.1 hz v hv)
        refine ⟨.agg vs'.toArray, ?_, mkAgg_rel h2⟩
        have hb : P.built t (parts.map fun (i, x) => (i, ρ x)).toList = some vs'.toArray := by
          simp only [Program.built, hi0, hu, hzv, hm, hzc]
          simpa using h1
        rw [Sem.run_bind, run_build w t _ _ hb]
        rfl
    · cases h
  case makeFunc fn first caps =>
    cases fn <;> simp only [reduceCtorEq] at h
    rename_i f
    cases hf : first.isEmpty with
    | false => rw [hf] at h; cases h
    | true =>
      rw [hf] at h
      simp only [cond_true] at h
      split at h
      · rename_i xs hx
        cases h1 : xs.all oneA with
        | false => rw [h1] at h; cases h
        | true =>
          rw [h1] at h
          injection h with h
          subst h
          have r := (mapVal_rel hρ hx).ones h1
          have e : first = #[] := by simpa using hf
          subst e
          refine ⟨.func (.func f) #[] (caps.toList.map ρ).toArray, ?_, ?_⟩
          · simp only [Instr.makeFunc, Sem.run_bind, Sem.run_pure, Result.andThen_ok]
            have : Array.map ρ caps = (List.map ρ caps.toList).toArray := Array.ext' (by simp)
            rw [this]
            simp
          · split
            · rename_i ds e
              rw [allD_map e] at r
              exact .d (.fn r.toD)
            · exact .fn r
      · cases h
  case fieldAddr s x f =>
    split at h
    · rename_i off ty hf
      split at h
      · rename_i n b z hi
        split at h
        · rename_i id k i q hx
          injection h with h
          subst h
          have r := hρ _ _ hx
          generalize ρ x = u at r
          cases r with
          | ptr hid =>
            refine ⟨_, by rw [Sem.run_bind, run_fieldPlace hT hf hi]; rfl, ?_⟩
            rw [Nat.add_assoc]
            exact .ptr hid
        · rename_i t m g i q hx
          injection h with h
          subst h
          have r := hρ _ _ hx
          generalize ρ x = u at r
          cases r with
          | d r =>
            cases r with
            | rop k vs h1 h2 h3 h4 h5 =>
              refine ⟨_, by rw [Sem.run_bind, run_fieldPlace hT hf hi]; rfl, ?_⟩
              rw [Nat.add_assoc]
              exact .d (.rop k vs h1 h2 h3 h4 h5)
        · rename_i b0 q hx
          injection h with h
          subst h
          have r := hρ _ _ hx
          generalize ρ x = u at r
          cases r with
          | d r =>
            cases r with
            | v r => exact ⟨_, by rw [Sem.run_bind, run_fieldPlace hT hf hi]; rfl, .d (.v rfl)⟩
        · cases h
      · cases h
    · cases h
  case field s x f =>
    split at h
    · rename_i off ty hf
      obtain ⟨fs, F, hu, hF, eo, et⟩ := hT.fld hf
      have key : ∀ (vs : List Value) (v : Value), (part ty vs.toArray off).run P w = .ok v w → ρ x = .agg vs.toArray → ((do pure (Next.value (← Instr.field s (ρ x) f)) : Sem Next).run P w = .ok (.value v) w) := by
        intro vs v h1 h2
        simp [Instr.field, run_underlying hu, hF, h2, asAgg, eo, et, h1]
      split at h
      · rename_i n b z xs ha hi hx
        injection h with h
        subst h
        obtain ⟨vs, hr, r⟩ := (hρ _ _ hx).aggd_inv
        exact ⟨_, key _ _ (run_part hT ha hi _ _ (by simp) (by simp)) hr, .d (.agg ((r.drop off).take n))⟩
      · rename_i n b z xs ha hi hx
        injection h with h
        subst h
        obtain ⟨vs, hr, r⟩ := (hρ _ _ hx).agg_inv
        exact ⟨_, key _ _ (run_part hT ha hi _ _ (by simp) (by simp)) hr, mkAgg_rel ((r.drop off).take n)⟩
      · rename_i p xs ha hi hx
        obtain ⟨n, b, z⟩ := p
        obtain ⟨y, hy, rfl⟩ := Option.map_eq_some_iff.1 h
        obtain ⟨vs, hr, r⟩ := (hρ _ _ hx).aggd_inv
        obtain ⟨v, e1, e2, _⟩ := r.at_ hy
        exact ⟨v, key _ _ (run_part hT ha hi _ _ (by simp) (fun _ => e1)) hr, .d e2⟩
      · rename_i p xs ha hi hx
        obtain ⟨n, b, z⟩ := p
        obtain ⟨vs, hr, r⟩ := (hρ _ _ hx).agg_inv
        obtain ⟨v, e1, e2, _⟩ := r.at_ h
        exact ⟨v, key _ _ (run_part hT ha hi _ _ (by simp) (fun _ => e1)) hr, e2⟩
      · cases h
    · cases h
  case extract x i =>
    split at h
    · rename_i xs hx
      obtain ⟨vs, hr, r⟩ := (hρ _ _ hx).tup_inv
      obtain ⟨v, e1, e2⟩ := r.at_ h
      exact ⟨v, by simp [Instr.extract, hr, e1], e2⟩
    · cases h
  case makeInterface t x =>
    split at h
    · rename_i e y he hx
      injection h with h
      subst h
      have hu := hT.ptrs.mem _ (lookup_mem he)
      have r := hρ _ _ hx
      cases r with
      | d r => exact ⟨_, by simp [Instr.makeInterface, run_underlying hu], .d (.ifc r)⟩
    · rename_i e y _ he hx
      injection h with h
      subst h
      have hu := hT.ptrs.mem _ (lookup_mem he)
      exact ⟨_, by simp [Instr.makeInterface, run_underlying hu], .ifc (hρ _ _ hx)⟩
    · cases h
  case call c =>
    obtain ⟨callee, args, tys⟩ := c
    obtain ⟨args⟩ := args
    obtain ⟨tys⟩ := tys
    unfold evalCall at h
    cases callee <;> simp only [reduceCtorEq] at h
    rename_i bi
    cases bi <;> simp only [reduceCtorEq] at h
    · -- len
      unfold evalLen at h
      split at h
      · rename_i x t
        have key : ∀ (A : Option Addr) (n c : Nat), (T.slices.lookup t).isSome = true → ρ x = .slice A n c → (execOp ρ o).run P w = .ok (.value (.int .i64 n)) w := by
          intro A n c hs e1
          obtain ⟨e, he⟩ := Option.isSome_iff_exists.1 hs
          unfold execOp
          rw [ho]
          simp [resolve, invoke, builtin, e1, run_lenSlice hT he]
        unfold execOp at key
        rw [ho] at key
        dsimp only at key
        split at h
        · rename_i id k q n hx
          cases hs : (T.slices.lookup t).isSome with
          | false => rw [hs] at h; cases h
          | true =>
            rw [hs] at h
            injection h with h
            subst h
            have r := hρ _ _ hx
            obtain ⟨A, c, e1⟩ := r.own_inv
            exact ⟨_, key A n c hs e1, .d (.v rfl)⟩
        · rename_i id q n hx
          cases hs : (T.slices.lookup t).isSome with
          | false => rw [hs] at h; cases h
          | true =>
            rw [hs] at h
            injection h with h
            subst h
            have r := hρ _ _ hx
            obtain ⟨A, c, e1⟩ := r.win_inv
            exact ⟨_, key A n c hs e1, .d (.v rfl)⟩
        · rename_i tt n g hx
          cases hs : (T.slices.lookup t).isSome with
          | false => rw [hs] at h; cases h
          | true =>
            rw [hs] at h
            injection h with h
            subst h
            have r := hρ _ _ hx
            obtain ⟨A, c, e1⟩ := r.sl_inv
            exact ⟨_, key A n c hs e1, .d (.v rfl)⟩
        · rename_i hx
          cases hs : (T.slices.lookup t).isSome with
          | false => rw [hs] at h; cases h
          | true =>
            rw [hs] at h
            injection h with h
            subst h
            have r := hρ _ _ hx
            have e1 : ρ x = .slice none 0 0 := r.v_inv
            exact ⟨_, key none 0 0 hs e1, .d (.v rfl)⟩
        · rename_i s hx
          cases hs : T.strs.contains t with
          | false => rw [hs] at h; cases h
          | true =>
            rw [hs] at h
            injection h with h
            subst h
            have r := hρ _ _ hx
            refine ⟨.int .i64 s.size, ?_, .d (.v rfl)⟩
            have e1 : ρ x = .string s := r.v_inv
            simp [resolve, invoke, builtin, e1, run_lenStr hT hs]
        · cases h
      · cases h
    all_goals
      unfold evalMx at h
      split at h
      · rename_i x y
        split at h
        · rename_i k a k' b hx hy
          injection h with h
          subst h
          have ex : ρ x = .int k a := (hρ _ _ hx).v_inv
          have ey : ρ y = .int k' b := (hρ _ _ hy).v_inv
          refine ⟨_, ?_, .d (.v rfl)⟩
          simp [resolve, invoke, builtin, ex, ey, Builtin.max_, Builtin.max2, Builtin.min_, Builtin.min2]
        · cases h
      · cases h
end
end Go.Sy
