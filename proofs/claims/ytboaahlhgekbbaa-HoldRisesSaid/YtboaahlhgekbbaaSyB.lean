/- What an operation without memory makes of abstract values. -/
import Derived.Test.YtboaahlhgekbbaaSyA
set_option linter.unusedVariables false
set_option linter.unusedSimpArgs false
namespace Go.Sy

structure Tab where
  info : List (TypeId × (Nat × Nat × List Value)) := []
  aggs : List (TypeId × Bool) := []
  flds : List ((TypeId × Nat) × (Nat × TypeId)) := []
  slices : List (TypeId × TypeId) := []
  strs : List TypeId := []
  ints : List (TypeId × IntKind) := []
  arrs : List (TypeId × (Nat × TypeId)) := []
  has : List TypeId := []
  ptrs : List (TypeId × TypeId) := []
  bools : List TypeId := []
  strts : List (TypeId × List (Nat × Nat)) := []
  eqs : List (TypeId × List Nat) := []

def zeq : Value → Value → Bool
  | .int k n, .int k' n' => k == k' && n == n'
  | .bool b, .bool b' => b == b'
  | .string s, .string s' => s.data.isEmpty && s'.data.isEmpty
  | .pointer none, .pointer none => true
  | .slice none a b, .slice none a' b' => Nat.beq a a' && Nat.beq b b'
  | .map none, .map none => true
  | .chan none, .chan none => true
  | .nilFunc, .nilFunc => true
  | .nilIface, .nilIface => true
  | _, _ => false
theorem zeq_eq {a b : Value} (h : zeq a b = true) : a = b := by
  unfold zeq at h
  split at h <;> simp_all
  · rename_i s s'
    obtain ⟨⟨s⟩⟩ := s
    obtain ⟨⟨s'⟩⟩ := s'
    simp_all
def zeqs : List Value → List Value → Bool
  | [], [] => true
  | a :: as, b :: bs => zeq a b && zeqs as bs
  | _, _ => false
theorem zeqs_eq : ∀ {a b : List Value}, zeqs a b = true → a = b
  | [], [], _ => rfl
  | a :: as, b :: bs, h => by
    simp only [zeqs, Bool.and_eq_true] at h
    rw [zeq_eq h.1, zeqs_eq h.2]
  | [], _ :: _, h => by simp [zeqs] at h
  | _ :: _, [], h => by simp [zeqs] at h

def okInfo (P : Program) (e : TypeId × (Nat × Nat × List Value)) : Bool :=
  match P.info? e.1 with
  | some i => Nat.beq i.size e.2.1 && Nat.beq i.bytes e.2.2.1 && (match i.zero with | some z => zeqs z.cells.toList e.2.2.2 | none => false)
  | none => false
def isAggD : TypeDesc → Bool
  | .struct _ => true
  | .array _ _ => true
  | _ => false
def okAgg (P : Program) (e : TypeId × Bool) : Bool :=
  match P.underlying e.1 with
  | some d => isAggD d == e.2
  | none => false
def fldOf (f : Nat) : TypeDesc → Option (Nat × TypeId)
  | .struct fs => fs[f]?.map fun F => (F.offset, F.type)
  | _ => none
def okFld (P : Program) (e : (TypeId × Nat) × (Nat × TypeId)) : Bool :=
  match P.underlying e.1.1 with
  | some d =>
    match fldOf e.1.2 d with
    | some r => Nat.beq r.1 e.2.1 && Nat.beq r.2 e.2.2
    | none => false
  | none => false
def okDesc (P : Program) (t : TypeId) (p : TypeDesc → Bool) : Bool :=
  match P.underlying t with
  | some d => p d
  | none => false
def isSliceD (e : TypeId) : TypeDesc → Bool
  | .slice e' => Nat.beq e' e
  | _ => false
def isStrD : TypeDesc → Bool
  | .string => true
  | _ => false
def isBoolD : TypeDesc → Bool
  | .bool => true
  | _ => false
def isIntD (k : IntKind) : TypeDesc → Bool
  | .int k' => k' == k
  | _ => false
def isArrD (n e : Nat) : TypeDesc → Bool
  | .array n' e' => Nat.beq n' n && Nat.beq e' e
  | _ => false
def isPtrD (e : TypeId) : TypeDesc → Bool
  | .pointer e' => Nat.beq e' e
  | _ => false
theorem okDesc_at {P : Program} {t : TypeId} {p : TypeDesc → Bool} (h : okDesc P t p = true) : ∃ d, P.underlying t = some d ∧ p d = true := by
  unfold okDesc at h
  split at h
  · exact ⟨_, ‹_›, h⟩
  · cases h

def All {α : Type} (p : α → Prop) : List α → Prop
  | [] => True
  | x :: xs => p x ∧ All p xs
theorem All.mem {α : Type} {p : α → Prop} : ∀ {l : List α}, All p l → ∀ x ∈ l, p x
  | [], _, _, h => by cases h
  | _ :: _, ⟨h1, h2⟩, x, h => by
    rcases List.mem_cons.1 h with rfl | h
    · exact h1
    · exact All.mem h2 x h

theorem All.of {α : Type} {p : α → Prop} : ∀ {l : List α}, (∀ x ∈ l, p x) → All p l
  | [], _ => trivial
  | x :: _, h => ⟨h x (List.mem_cons_self ..), All.of fun y hy => h y (List.mem_cons_of_mem _ hy)⟩

def eqPl : List (Nat × Nat) → List (Nat × Nat) → Bool
  | [], [] => true
  | a :: as, b :: bs => Nat.beq a.1 b.1 && Nat.beq a.2 b.2 && eqPl as bs
  | _, _ => false
theorem eqPl_eq : ∀ {a b : List (Nat × Nat)}, eqPl a b = true → a = b
  | [], [], _ => rfl
  | (a, a') :: as, (b, b') :: bs, h => by
    simp only [eqPl, Bool.and_eq_true] at h
    rw [eqPl_eq h.2]
    have h1 := Nat.eq_of_beq_eq_true h.1.1
    have h2 := Nat.eq_of_beq_eq_true h.1.2
    rw [show a = b from h1, show a' = b' from h2]
  | [], _ :: _, h => by simp [eqPl] at h
  | _ :: _, [], h => by simp [eqPl] at h
def okStrt (P : Program) (e : TypeId × List (Nat × Nat)) : Bool :=
  match P.underlying e.1 with
  | some (.struct fs) =>
    match fs.toList.mapM (fun f => (P.info? f.type).map fun i => (f.offset, i.size)) with
    | some pl => eqPl pl e.2
    | none => false
  | _ => false

def tagOk : Nat → Option TypeDesc → Bool
  | 0, some (.int _) => true
  | 1, some .bool => true
  | 2, some .string => true
  | _, _ => false
def okEqF (P : Program) : Nat → List Field → List Nat → Bool
  | _, [], [] => true
  | i, f :: fs, t :: ts => !(f.name == "_") && Nat.beq f.offset i && tagOk t (P.underlying f.type) && okEqF P (i + 1) fs ts
  | _, _, _ => false
def okEqs (P : Program) (e : TypeId × List Nat) : Bool :=
  match P.underlying e.1 with
  | some (.struct fs) => !P.stoodInHeld e.1 && !P.eqGuardType P.depth e.1 && okEqF P 0 fs.toList e.2
  | _ => false

structure TabOk (P : Program) (T : Tab) : Prop where
  info : T.info.all (okInfo P) = true
  aggs : T.aggs.all (okAgg P) = true
  flds : T.flds.all (okFld P) = true
  slices' : T.slices.all (fun e => okDesc P e.1 (isSliceD e.2)) = true
  strs' : T.strs.all (fun e => okDesc P e isStrD) = true
  ints' : T.ints.all (fun e => okDesc P e.1 (isIntD e.2)) = true
  arrs' : T.arrs.all (fun e => okDesc P e.1 (isArrD e.2.1 e.2.2)) = true
  has' : T.has.all (fun e => okDesc P e fun _ => true) = true
  ptrs' : T.ptrs.all (fun e => okDesc P e.1 (isPtrD e.2)) = true
  bools' : T.bools.all (fun e => okDesc P e isBoolD) = true
  strts' : T.strts.all (okStrt P) = true
  eqs' : T.eqs.all (okEqs P) = true

theorem lookup_mem {α β : Type} [BEq α] [LawfulBEq α] {k : α} {v : β} : ∀ {l : List (α × β)}, l.lookup k = some v → (k, v) ∈ l
  | [], h => by simp at h
  | (a, b) :: l, h => by
    rw [List.lookup_cons] at h
    split at h
    · rename_i e
      have e := eq_of_beq e
      injection h with h
      subst e
      subst h
      exact List.mem_cons_self ..
    · exact List.mem_cons_of_mem _ (lookup_mem h)

section
variable {P : Program} {T : Tab} (hT : TabOk P T)
include hT
theorem TabOk.slices : All (fun e : TypeId × TypeId => P.underlying e.1 = some (.slice e.2)) T.slices := by
  refine All.of fun e he => ?_
  obtain ⟨d, h1, h2⟩ := okDesc_at (List.all_eq_true.1 hT.slices' e he)
  cases d <;> simp [isSliceD] at h2
  rw [h1, h2]
theorem TabOk.strs : All (fun e => P.underlying e = some .string) T.strs := by
  refine All.of fun e he => ?_
  obtain ⟨d, h1, h2⟩ := okDesc_at (List.all_eq_true.1 hT.strs' e he)
  cases d <;> simp [isStrD] at h2
  exact h1
theorem TabOk.bools : All (fun e => P.underlying e = some .bool) T.bools := by
  refine All.of fun e he => ?_
  obtain ⟨d, h1, h2⟩ := okDesc_at (List.all_eq_true.1 hT.bools' e he)
  cases d <;> simp [isBoolD] at h2
  exact h1
theorem TabOk.ints : All (fun e : TypeId × IntKind => P.underlying e.1 = some (.int e.2)) T.ints := by
  refine All.of fun e he => ?_
  obtain ⟨d, h1, h2⟩ := okDesc_at (List.all_eq_true.1 hT.ints' e he)
  cases d <;> simp [isIntD] at h2
  rw [h1, h2]
theorem TabOk.arrs : All (fun e : TypeId × (Nat × TypeId) => P.underlying e.1 = some (.array e.2.1 e.2.2)) T.arrs := by
  refine All.of fun e he => ?_
  obtain ⟨d, h1, h2⟩ := okDesc_at (List.all_eq_true.1 hT.arrs' e he)
  cases d <;> simp [isArrD] at h2
  rw [h1, h2.1, h2.2]
theorem TabOk.ptrs : All (fun e : TypeId × TypeId => P.underlying e.1 = some (.pointer e.2)) T.ptrs := by
  refine All.of fun e he => ?_
  obtain ⟨d, h1, h2⟩ := okDesc_at (List.all_eq_true.1 hT.ptrs' e he)
  cases d <;> simp [isPtrD] at h2
  rw [h1, h2]
theorem TabOk.infoAt {t : TypeId} {s b : Nat} {z : List Value} (h : T.info.lookup t = some (s, b, z)) : ∃ i, P.info? t = some i ∧ i.size = s ∧ i.bytes = b ∧ i.zero.map (·.cells) = some z.toArray := by
  have := List.all_eq_true.1 hT.info _ (lookup_mem h)
  unfold okInfo at this
  split at this
  · rename_i i hi
    simp only [Bool.and_eq_true] at this
    obtain ⟨⟨h1, h2⟩, h3⟩ := this
    refine ⟨i, hi, Nat.eq_of_beq_eq_true h1, Nat.eq_of_beq_eq_true h2, ?_⟩
    split at h3
    · rename_i zv hz
      rw [hz, Option.map_some]
      congr 1
      exact Array.ext' (zeqs_eq h3)
    · cases h3
  · cases this
theorem TabOk.size {t : TypeId} {s b : Nat} {z : List Value} (h : T.info.lookup t = some (s, b, z)) (w : World) : (sizeOf t).run P w = .ok s w := by
  obtain ⟨i, hi, e, _⟩ := hT.infoAt h
  simp [sizeOf, typeInfo, hi, e]
theorem TabOk.zero {t : TypeId} {s b : Nat} {z : List Value} (h : T.info.lookup t = some (s, b, z)) (w : World) : ∃ zv, (zeroValue t).run P w = .ok zv w ∧ zv.cells = z.toArray := by
  obtain ⟨i, hi, _, _, e⟩ := hT.infoAt h
  obtain ⟨zv, h1, h2⟩ := Option.map_eq_some_iff.1 e
  exact ⟨zv, by simp [zeroValue, typeInfo, hi, h1], h2⟩
theorem TabOk.agg {t : TypeId} {g : Bool} (h : T.aggs.lookup t = some g) (w : World) : (isAgg t).run P w = .ok g w := by
  have := List.all_eq_true.1 hT.aggs _ (lookup_mem h)
  unfold okAgg at this
  split at this
  · rename_i d hd
    have this : isAggD d = g := by simpa using this
    subst this
    simp only [isAgg, Sem.run_bind, run_underlying hd, Result.andThen_ok]
    cases d <;> rfl
  · cases this
theorem TabOk.fld {t f off ty : Nat} (h : T.flds.lookup (t, f) = some (off, ty)) : ∃ fs F, P.underlying t = some (.struct fs) ∧ fs[f]? = some F ∧ F.offset = off ∧ F.type = ty := by
  have := List.all_eq_true.1 hT.flds _ (lookup_mem h)
  unfold okFld at this
  split at this
  · rename_i d hd
    cases d <;> simp only [fldOf, reduceCtorEq] at this
    all_goals first | (cases this; done) | skip
    rename_i fs
    split at this
    · rename_i r hr
      obtain ⟨F, hF, e⟩ := Option.map_eq_some_iff.1 hr
      subst e
      simp only [Bool.and_eq_true] at this
      exact ⟨fs, F, hd, hF, Nat.eq_of_beq_eq_true this.1, Nat.eq_of_beq_eq_true this.2⟩
    · cases this
  · cases this
theorem TabOk.strt {t : TypeId} {pl : List (Nat × Nat)} (h : T.strts.lookup t = some pl) : ∃ fs, P.underlying t = some (.struct fs) ∧ fs.toList.mapM (fun f => (P.info? f.type).map fun i => (f.offset, i.size)) = some pl := by
  have := List.all_eq_true.1 hT.strts' _ (lookup_mem h)
  unfold okStrt at this
  split at this
  · rename_i fs hu
    split at this
    · rename_i pl' hp
      exact ⟨fs, hu, by rw [hp, eqPl_eq this]⟩
    · cases this
  · cases this
theorem TabOk.eq {t : TypeId} {tags : List Nat} (h : T.eqs.lookup t = some tags) : ∃ fs, P.underlying t = some (.struct fs) ∧ P.stoodInHeld t = false ∧ P.eqGuardType P.depth t = false ∧ okEqF P 0 fs.toList tags = true := by
  have := List.all_eq_true.1 hT.eqs' _ (lookup_mem h)
  unfold okEqs at this
  split at this
  · rename_i fs hu
    simp only [Bool.and_eq_true, Bool.not_eq_true'] at this
    exact ⟨fs, hu, this.1.1, this.1.2, this.2⟩
  · cases this
theorem TabOk.slice {t e : TypeId} (h : T.slices.lookup t = some e) : P.underlying t = some (.slice e) := hT.slices.mem _ (lookup_mem h)
theorem TabOk.int {t : TypeId} {k : IntKind} (h : T.ints.lookup t = some k) : P.underlying t = some (.int k) := hT.ints.mem _ (lookup_mem h)
theorem TabOk.str {t : TypeId} (h : T.strs.contains t = true) : P.underlying t = some .string := hT.strs.mem _ (by simpa using h)
theorem TabOk.hasT {t : TypeId} (h : T.has.contains t = true) : ∃ d, P.underlying t = some d := by
  obtain ⟨d, h1, _⟩ := okDesc_at (List.all_eq_true.1 hT.has' t (by simpa using h))
  exact ⟨d, h1⟩
end

/-! ### Operands -/
def valOf (tm : List (Nat × AV)) : Operand → Option AV
  | .tmp t => tm.lookup t
  | .const (.agg cs) => if cs.all (·.oneCell') then some (.d (.agg (cs.toList.map .v))) else none
  | .const v => if v.oneCell' then some (.d (.v v)) else none
  | .func f => some (.d (.fn f []))
  | .global _ => none

theorem VRs.consts {w : World} {ok : Bool → Nat → Prop} : ∀ (cs : List Value), (∀ v ∈ cs, v.oneCell' = true) → VRs w ok (cs.map .v) cs
  | [], _ => .nil
  | v :: cs, h => .cons (h v (List.mem_cons_self ..)) (.v (h v (List.mem_cons_self ..))) (VRs.consts cs fun u hu => h u (List.mem_cons_of_mem _ hu))

section
variable {X : Ctx} {C : Conf} {a : Act} {tm : List (Nat × AV)} (htm : ∀ i av, tm.lookup i = some av → ∃ v, a.tmps[i]? = some v ∧ AVR C.w (C.ok X) C.μ av v)
include htm
theorem valOf_rel {x : Operand} {av : AV} (h : valOf tm x = some av) : AVR C.w (C.ok X) C.μ av (a.eval x) := by
  cases x with
  | tmp t =>
    obtain ⟨v, h1, h2⟩ := htm t av h
    have e : a.eval (.tmp t) = v := by simp [Act.eval, Array.getD_eq_getD_getElem?, h1]
    rw [e]
    exact h2
  | const v =>
    cases v with
    | agg cs =>
      simp only [valOf] at h
      split at h
      · rename_i hc
        injection h with h
        subst h
        have hc : ∀ v ∈ cs.toList, v.oneCell' = true := by
          intro v hv
          exact Array.all_eq_true_iff_forall_mem.1 hc v (by simpa using hv)
        have := VRs.consts (w := C.w) (ok := C.ok X) cs.toList hc
        have k := VR.agg this
        simp only [Array.toArray_toList] at k
        exact .d k
      · cases h
    | _ =>
      simp only [valOf] at h
      split at h
      · rename_i hc
        injection h with h
        subst h
        exact .d (.v hc)
      · cases h
  | global g => cases h
  | func f =>
    injection h with h
    subst h
    exact .d (.fn (xs := []) (cs := []) .nil)
end

/-! ### Values -/
def cmpI (op : BinOp) (a b : Int) : Option Value :=
  match op with
  | .eql => some (.bool (a == b))
  | .neq => some (.bool (a != b))
  | .lss => some (.bool (a < b))
  | .leq => some (.bool (a ≤ b))
  | .gtr => some (.bool (a > b))
  | .geq => some (.bool (a ≥ b))
  | _ => none

def bitsI (op : BinOp) (k : IntKind) (x y : Int) : Option Value :=
  match op with
  | .and => some (.int k (k.wrap (BitVec.ofInt k.bits x &&& BitVec.ofInt k.bits y).toNat))
  | .or => some (.int k (k.wrap (BitVec.ofInt k.bits x ||| BitVec.ofInt k.bits y).toNat))
  | .xor => some (.int k (k.wrap (BitVec.ofInt k.bits x ^^^ BitVec.ofInt k.bits y).toNat))
  | .andNot => some (.int k (k.wrap (BitVec.ofInt k.bits x &&& ~~~ (BitVec.ofInt k.bits y)).toNat))
  | _ => none

/-- Two plain values of one kind. -/
def binV (op : BinOp) : Value → Value → Option Value
  | .int k a, .int k' b =>
    match op with
    | .shl => if 0 ≤ b then some (.int k (k.wrap (a * 2 ^ (min b.toNat k.bits)))) else none
    | .shr => if 0 ≤ b then some (.int k (a.fdiv (2 ^ (min b.toNat k.bits)))) else none
    | .add => if k = k' then some (.int k (k.wrap (a + b))) else none
    | .sub => if k = k' then some (.int k (k.wrap (a - b))) else none
    | .mul => if k = k' then some (.int k (k.wrap (a * b))) else none
    | .quo => if k = k' then (if b = 0 then none else some (.int k (k.wrap (a.tdiv b)))) else none
    | .rem => if k = k' then (if b = 0 then none else some (.int k (a.tmod b))) else none
    | .and => if k = k' then bitsI .and k a b else none
    | .or => if k = k' then bitsI .or k a b else none
    | .xor => if k = k' then bitsI .xor k a b else none
    | .andNot => if k = k' then bitsI .andNot k a b else none
    | op => if k = k' then cmpI op a b else none
  | .bool a, .bool b =>
    match op with
    | .eql => some (.bool (a == b))
    | .neq => some (.bool (!(a == b)))
    | _ => none
  | .string a, .string b =>
    match op with
    | .eql => some (.bool (a.toList == b.toList))
    | .neq => some (.bool (!(a.toList == b.toList)))
    | _ => none
  | _, _ => none

theorem binV_one {op : BinOp} {x y z : Value} (h : binV op x y = some z) : z.oneCell' = true := by
  unfold binV at h
  cases x <;> cases y <;> cases op <;> simp only [bitsI, cmpI, reduceCtorEq] at h <;> (repeat' split at h) <;> (first | (injection h with h; subst h; rfl) | cases h)

def eqOk (T : Tab) (op : BinOp) (t : TypeId) : Value → Value → Bool
  | .bool _, .bool _ => (op matches .eql | .neq) && (T.has.contains t)
  | _, _ => true

theorem run_equalIn_bool {P : Program} (d : Nat) {t : TypeId} (w : World) (a b : Bool) (hu : P.underlying t = some .bool) : (Op.equalIn (d + 1) t (.bool a) (.bool b)).run P w = .ok (a == b) w := by
  simp [Op.equalIn, run_underlying hu]
theorem run_equal_bool {P : Program} {t : TypeId} (w : World) (a b : Bool) (hu : P.underlying t = some .bool) : (Op.equal t (.bool a) (.bool b)).run P w = .ok (a == b) w := run_equalIn_bool 9999 w a b hu

theorem binV_run {P : Program} {w : World} {op : BinOp} {t : TypeId} {x y : Operand} {u v z : Value} (h : binV op u v = some z) (hb : ∀ a b, u = .bool a → v = .bool b → P.underlying t = some .bool) :
    (do eqGuard op t x y u v; binOp op t u v).run P w = .ok z w := by
  cases u with
  | int k a =>
    cases v <;> simp only [binV, reduceCtorEq] at h
    rename_i k' b
    simp only [eqGuard_at_int, Sem.run_bind, Sem.run_pure, Result.andThen_ok]
    cases op <;> simp only [cmpI, bitsI] at h <;> (repeat' split at h) <;> first
      | (cases h; done)
      | (injection h with h; subst h; subst_vars; simp_all [binOp, Op.intArith, Op.intCmp, Op.intDiv, Op.intBits, Op.shift]; done)
      | (injection h with h; subst h; subst_vars; simp_all [binOp, Op.intArith, Op.intCmp, Op.intDiv, Op.intBits, Op.shift]; omega)
  | bool a =>
    cases v <;> simp only [binV, reduceCtorEq] at h
    rename_i b
    have hu := hb a b rfl rfl
    simp only [eqGuard_at_bool, Sem.run_bind, Sem.run_pure, Result.andThen_ok]
    cases op <;> simp only [reduceCtorEq] at h <;> (injection h with h; subst h) <;> simp [binOp, run_equal_bool _ _ _ hu]
  | string a =>
    cases v <;> simp only [binV, reduceCtorEq] at h
    rename_i b
    simp only [eqGuard_at_string, Sem.run_bind, Sem.run_pure, Result.andThen_ok]
    cases op <;> simp only [reduceCtorEq] at h <;> (injection h with h; subst h) <;> simp [binOp, Op.stringOp]
  | _ => cases v <;> simp [binV] at h

end Go.Sy
