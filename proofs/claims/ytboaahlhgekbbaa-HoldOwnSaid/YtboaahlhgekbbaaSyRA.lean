/- Arrays of two, read as data. -/
import Derived.Test.YtboaahlhgekbbaaSyM
import Derived.OpenShut
import Derived.Test.YtboaahlhgekbbaaSyO
import Derived.Laws.BytesString
import Derived.Lib.AppendStr
import Derived.Deep.AppendSrc
import Derived.Deep.Upon
set_option linter.unusedVariables false
set_option linter.unusedSimpArgs false
namespace Go.Sy
open Go.Deep Go.WideShapes Go.RowKit

theorem rd_arr2 {P : Program} {t e : TypeId} {k : Nat} {α β : Type} {enc : α → List DV} {wf : α → Prop} {e' : β → List DV} {wf' : β → Prop} (hu : P.underlying t = some (.array 2 e)) (hk : P.cellsOf e = k) (hn : P.cellsOf t = 2 * k)
    (he : RD P e enc wf) (f : α → α → β) (h1 : ∀ a b, enc a ++ enc b = e' (f a b)) (h2 : ∀ a b, wf a → wf b → wf' (f a b)) : RD P t e' wf' := by
  intro H en w spare fuel cs x hx
  obtain ⟨xs, m, _, _, hl, hxl, hall⟩ := DataW.trod_array hu hx
  have q0 := hall 0 (by omega)
  have q1 := hall 1 (by omega)
  rw [List.getElem?_eq_getElem (by omega)] at q0 q1
  rw [Nat.zero_mul, List.drop_zero] at q0
  rw [Nat.one_mul] at q1
  obtain ⟨a, a1, a2⟩ := he _ _ _ _ _ _ _ q0
  obtain ⟨b, b1, b2⟩ := he _ _ _ _ _ _ _ q1
  refine ⟨f a b, ?_, h2 _ _ a2 b2⟩
  rw [← h1]
  have hb : (cs.drop (P.cellsOf e)).take (P.cellsOf e) = cs.drop (P.cellsOf e) := List.take_of_length_le (by rw [List.length_drop]; omega)
  rw [hb] at b1
  have := a1.app b1
  rwa [List.take_append_drop] at this

theorem okWide_arr {P : Program} {w : World} {r : Reach} {base : Nat} {t e : TypeId} {n : Nat} {v : Value} (ht : P.underlying t = some (.array n e)) (h : Value.okWide P w r base t v) : ∃ cs, v = .agg cs ∧ cs.size = P.cellsOf t := by
  simp only [Value.okWide, ht] at h
  obtain ⟨cs, h1, h2, _⟩ := h
  exact ⟨cs, h1, h2⟩
end Go.Sy
set_option linter.unusedVariables false
set_option linter.unusedSimpArgs false
namespace Go.Sy

section
variable {X : Ctx} {T : Tab} {f : FuncId} {k k' : List Item} {Q : Frame → Frame → Conf → Prop} {st st' : St}

/-! ### Joining -/
def catAt (st : St) (k : List Item) : Option (ByteArray × ByteArray × Option Tmp × List Item) :=
  match topOp st k with
  | some (o, k') =>
    match o.op with
    | .binOp .add t x y _ =>
      match valOf st.tm x, valOf st.tm y with
      | some (.d (.v (.string a))), some (.d (.v (.string b))) => some (a, b, o.dst, k')
      | _, _ => none
    | _ => none
  | none => none
theorem ak_cat0 (a b : ByteArray) (dst : Option Tmp) (e : catAt st k = some (a, b, dst, k')) (hb : ((a.size + b.size : Nat) : Int) ≤ 9223372036854775807) (h1 : St.put st dst (.d (.v (.string (a ++ b)))) = some st') (h : AK X f k' Q st') : AK X f k Q st := by
  unfold catAt at e
  split at e
  · rename_i o k3 htop
    split at e
    · rename_i t x y ty hop
      split at e
      · rename_i a' b' hx hy
        simp only [Option.some.injEq, Prod.mk.injEq] at e
        obtain ⟨rfl, rfl, rfl, rfl⟩ := e
        refine ak_top htop h fun ac C hC => ⟨.string (a' ++ b'), C, st, ?_, hC, _, h1, .d (.v rfl)⟩
        have hu := (hC.val _ _ hx).v_inv
        have hv := (hC.val _ _ hy).v_inv
        have hn : ¬ (IntKind.i64.max < ((a'.size + b'.size : Nat) : Int)) := by
          have : IntKind.i64.max = 9223372036854775807 := rfl
          omega
        have hr : (binOp .add t (.string a') (.string b')).run X.P C.w = .ok (.string (a' ++ b')) C.w := by
          have : ¬ (((a'.size + b'.size : Nat) : Int) > IntKind.i64.max) := hn
          simp only [binOp, Op.stringOp, if_neg this]
          rfl
        have hg : (eqGuard .add t x y (Value.string a') (Value.string b')).run X.P C.w = .ok () C.w := by simp [eqGuard]
        simp only [execOp, hop, hu, hv]
        rw [Sem.run_bind, Sem.run_bind, hg, Result.andThen_ok, hr]
        rfl
      · cases e
    · cases e
  · cases e
theorem ak_cat (a b : ByteArray) (dst : Option Tmp) (S : List Nat) (e : catAt st k = some (a, b, dst, k')) (hb : ((a.size + b.size : Nat) : Int) ≤ 9223372036854775807) (hput : (St.put st dst (.d (.v (.string (a ++ b))))).map (St.only S) = some st') (h : AK X f k' Q st') : AK X f k Q st := by
  obtain ⟨s0, h1, rfl⟩ := Option.map_eq_some_iff.1 hput
  exact ak_cat0 a b dst e hb h1 (ak_only S h)

/-! ### Parts of strings -/
def sliceSAt (T : Tab) (st : St) (k : List Item) : Option (ByteArray × Option (IntKind × Int) × Option (IntKind × Int) × Option Tmp × List Item) :=
  match topOp st k with
  | some (o, k') =>
    match o.op with
    | .slice t x lo hi none =>
      match valOf st.tm x, T.strs.contains t, intOf? st.tm lo, intOf? st.tm hi with
      | some (.d (.v (.string b))), true, some l, some h => some (b, l, h, o.dst, k')
      | _, _, _, _ => none
    | _ => none
  | none => none
theorem slice_runS {P : Program} (w : World) {t : TypeId} (hu : P.underlying t = some .string) (s : ByteArray) (l h : Option (IntKind × Int)) (h0 : 0 ≤ loN l) (h1 : loN l ≤ hiN s.size h) (h2 : hiN s.size h ≤ s.size) :
    (Instr.sliceAt t (.string s) (l.map fun p => .int p.1 p.2) (h.map fun p => .int p.1 p.2) none).run P w = .ok (.string (s.extract (loN l).toNat (hiN s.size h).toNat)) w := by
  rw [run_sliceAt_string w t _ _ _ _ hu]
  cases l with
  | none =>
    cases h with
    | none => simp only [Option.map_none, loN, hiN] at *; rw [run_slice_string_all w t s hu]; rfl
    | some p => simp only [Option.map_none, Option.map_some, loN, hiN] at *; rw [run_slice_string_h w t s hu p.1 p.2 h1 (by omega)]; rfl
  | some q =>
    cases h with
    | none => simp only [Option.map_none, Option.map_some, loN, hiN] at *; rw [run_slice_string_l w t s hu q.1 q.2 h0 (by omega)]; rfl
    | some p => simp only [Option.map_some, loN, hiN] at *; exact run_slice_string w t s q.1 p.1 q.2 p.2 hu h0 h1 (by omega)
theorem ak_sliceS0 (hT : TabOk X.P T) {s : ByteArray} {l h : Option (IntKind × Int)} {dst : Option Tmp} (e : sliceSAt T st k = some (s, l, h, dst, k')) (hc : 0 ≤ loN l ∧ loN l ≤ hiN s.size h ∧ hiN s.size h ≤ s.size)
    (h1 : St.put st dst (.d (.v (.string (s.extract (loN l).toNat (hiN s.size h).toNat)))) = some st') (hh : AK X f k' Q st') : AK X f k Q st := by
  unfold sliceSAt at e
  split at e
  · rename_i o k3 htop
    split at e
    · rename_i t x lo hi hop
      split at e
      · rename_i b l' h' hx hs hl hhi
        simp only [Option.some.injEq, Prod.mk.injEq] at e
        obtain ⟨rfl, rfl, rfl, rfl, rfl⟩ := e
        refine ak_top htop hh fun a C hC => ⟨_, C, st, ?_, hC, _, h1, .d (.v rfl)⟩
        have key : ∀ (y : Option Operand) (r : Option (IntKind × Int)), intOf? st.tm y = some r → y.map a.eval = r.map fun p => Value.int p.1 p.2 := by
          intro y r hy
          cases y with
          | none => simp only [intOf?, Option.some.injEq] at hy; subst hy; rfl
          | some y =>
            simp only [intOf?] at hy
            split at hy
            · rename_i kk ii hv
              injection hy with hy
              subst hy
              have := (hC.val _ _ hv).v_inv
              simp only [Option.map_some, this]
            · cases hy
        have hv := (hC.val _ _ hx).v_inv
        simp only [execOp, hop, key _ _ hl, key _ _ hhi, Option.map_none, hv]
        rw [Sem.run_bind, slice_runS C.w (hT.str hs) _ _ _ hc.1 hc.2.1 hc.2.2]
        rfl
      · cases e
    · cases e
  · cases e
theorem ak_sliceS (hT : TabOk X.P T) (S : List Nat) {s : ByteArray} {l h : Option (IntKind × Int)} {dst : Option Tmp} (e : sliceSAt T st k = some (s, l, h, dst, k')) (hc : 0 ≤ loN l ∧ loN l ≤ hiN s.size h ∧ hiN s.size h ≤ s.size)
    (hput : (St.put st dst (.d (.v (.string (s.extract (loN l).toNat (hiN s.size h).toNat))))).map (St.only S) = some st') (hh : AK X f k' Q st') : AK X f k Q st := by
  obtain ⟨s0, h1, rfl⟩ := Option.map_eq_some_iff.1 hput
  exact ak_sliceS0 hT e hc h1 (ak_only S hh)

/-! ### Bytes as a string -/
/-- The string of bytes. -/
def strB (xs : List Int) : ByteArray := ⟨(xs.map fun n => UInt8.ofNat n.toNat).toArray⟩
theorem strB_fold : ∀ (xs : List Int) (s : ByteArray), xs.foldl (fun r n => r.push (UInt8.ofNat n.toNat)) s = ⟨s.data ++ (xs.map fun n => UInt8.ofNat n.toNat).toArray⟩
  | [], s => by simp
  | n :: xs, s => by
    rw [List.foldl_cons, strB_fold xs]
    simp [ByteArray.push]
theorem strB_eq (xs : List Int) : xs.foldl (fun r n => r.push (UInt8.ofNat n.toNat)) ByteArray.empty = strB xs := by
  rw [strB_fold]
  have : ByteArray.empty.data = #[] := rfl
  rw [this, Array.empty_append]
  rfl
theorem VRs_oneV {w : World} {ok : Bool → Nat → Prop} {x : Value} {u : List Value} (h : VRs w ok [.v x] u) : u = [x] := by
  cases h with
  | cons h1 h hs =>
    cases hs
    cases h
    rfl
/-- What a slice of bytes holds. -/
structure BytesV (w : World) (xs : List Int) (v : Value) : Prop where
  shape : ∃ A c, v = .slice A xs.length c ∧ (A = none → xs = []) ∧ ∀ ad, A = some ad → ∀ (j : Nat) n, xs[j]? = some n → w.cell? (ad.add j) = some (.int .u8 n)
theorem bytes_run {P : Program} {w : World} {xs : List Int} {v : Value} (h : BytesV w xs v) {src dst e : TypeId} (hs : P.underlying src = some (.slice e)) (he : P.underlying e = some (.int .u8)) (hd : P.underlying dst = some .string) :
    (convert src dst v).run P w = .ok (.string (strB xs)) w := by
  obtain ⟨A, c, rfl, h0, h1⟩ := h.shape
  rw [run_convert_bytes_string w src dst e A _ c hs he hd]
  cases A with
  | none =>
    have := h0 rfl
    subst this
    rfl
  | some ad =>
    rw [run_bytesToString w ad xs.length c xs, strB_eq]
    have := run_firstCells_some (P := P) w 1 xs.length ad xs.length c (xs.map (Value.int .u8)) (by simp) (fun j v hj => by
      rw [List.getElem?_map, Option.map_eq_some_iff] at hj
      obtain ⟨n, hn, rfl⟩ := hj
      exact h1 ad rfl j n hn)
    simpa [Builtin.firstCells] using this
theorem bytesV_d {w : World} {ok : Bool → Nat → Prop} {tg : Bool} {xs : List Int} {v : Value} (h : VR w ok (.sl tg xs.length (vec (eI .u8) 0 xs)) v) : BytesV w xs v := by
  generalize hn : xs.length = n at h
  cases h with
  | sl0 =>
    have : xs = [] := List.length_eq_zero_iff.1 hn
    subst this
    exact ⟨⟨_, _, rfl, fun _ => rfl, fun _ _ j n h => by simp at h⟩⟩
  | sl kq vs g0 gc gok gl gr gm =>
    rename_i b o c
    have hk : kq = 1 := by
      have := (gr 0 g0).length
      rw [gl 0 g0] at this
      exact this.symm
    subst hk
    refine ⟨⟨some ⟨b, o, none⟩, c, by rw [hn], fun h => (by cases h), fun ad ha j m hj => ?_⟩⟩
    injection ha with ha
    subst ha
    have hjn : j < n := by
      have := (List.getElem?_eq_some_iff.1 hj).1
      omega
    have hv := gr j hjn
    have hvj : vec (eI .u8) 0 xs j = [.v (.int .u8 m)] := by
      unfold vec eI
      rw [List.getD_eq_getElem?_getD, hj]
      rfl
    rw [hvj] at hv
    have := VRs_oneV hv
    have := gm j 0 (.int .u8 m) hjn (by rw [this]; rfl)
    rw [Nat.mul_one, Nat.add_zero] at this
    rw [add_none]
    exact this
theorem bytesV_own {C : Conf} (h : HRel X C) {id e : Nat} {fz : Bool} {xs : List Int} {v : Value} (hr : C.rows[id]? = some (.flat fz 1 e xs.length (vec (eI .u8) 0 xs))) (hv : AVR C.w (C.ok X) C.μ (.own id 1 0 xs.length) v) : BytesV C.w xs v := by
  generalize hn : xs.length = n at hr hv
  generalize ho : (0 : Nat) = off at hv
  cases hv with
  | own0 hm =>
    have : xs = [] := List.length_eq_zero_iff.1 hn
    subst this
    exact ⟨⟨_, _, rfl, fun _ => rfl, fun _ _ j n h => by simp at h⟩⟩
  | own hm hh hs hnc hc =>
    rename_i b c cs ty
    subst ho
    obtain ⟨cs2, vs, r1, r2, r3, r4, r5⟩ := h.rel id (some b) _ hm hr
    refine ⟨⟨some ⟨b, 0 * 1, none⟩, c, by rw [hn], fun h => (by cases h), fun ad ha j m hj => ?_⟩⟩
    injection ha with ha
    subst ha
    have hjn : j < n := by
      have := (List.getElem?_eq_some_iff.1 hj).1
      omega
    have hv := r4 j hjn
    have hvj : vec (eI .u8) 0 xs j = [.v (.int .u8 m)] := by
      unfold vec eI
      rw [List.getD_eq_getElem?_getD, hj]
      rfl
    rw [hvj] at hv
    have := VRs_oneV hv
    have := r5 j 0 (.int .u8 m) hjn (by rw [this]; rfl)
    simp only [Nat.mul_one, Nat.add_zero, Nat.zero_mul] at this ⊢
    rw [Addr.add_lit, Nat.zero_add, World.cell?, r1]
    simpa using this

def toStrAt (T : Tab) (st : St) (k : List Item) : Option (AV × Option Tmp × List Item) :=
  match topOp st k with
  | some (o, k') =>
    match o.op with
    | .convert s t x =>
      match valOf st.tm x, T.slices.lookup s, T.strs.contains t with
      | some av, some e, true => match T.ints.lookup e with
        | some .u8 => some (av, o.dst, k')
        | _ => none
      | _, _, _ => none
    | _ => none
  | none => none
inductive BytesAV (rows : List Row) (xs : List Int) : AV → Prop
  | d (tg : Bool) : BytesAV rows xs (.d (.sl tg xs.length (vec (eI .u8) 0 xs)))
  | own {id e : Nat} {fz : Bool} (h : rows[id]? = some (.flat fz 1 e xs.length (vec (eI .u8) 0 xs))) : BytesAV rows xs (.own id 1 0 xs.length)
theorem ak_toStr0 (hT : TabOk X.P T) {av : AV} {dst : Option Tmp} (xs : List Int) (e : toStrAt T st k = some (av, dst, k')) (hb : BytesAV st.rows xs av) (h1 : St.put st dst (.d (.v (.string (strB xs)))) = some st') (h : AK X f k' Q st') : AK X f k Q st := by
  unfold toStrAt at e
  split at e
  · rename_i o k3 htop
    split at e
    · rename_i s t x hop
      split at e
      · rename_i av' el hx hsl hst
        split at e
        · rename_i hint
          simp only [Option.some.injEq, Prod.mk.injEq] at e
          obtain ⟨rfl, rfl, rfl⟩ := e
          refine ak_top htop h fun a C hC => ⟨_, C, st, ?_, hC, _, h1, .d (.v rfl)⟩
          have hv := hC.val _ _ hx
          have hbv : BytesV C.w xs (a.eval x) := by
            cases hb with
            | d tg =>
              cases hv with
              | d hv => exact bytesV_d hv
            | own hr => exact bytesV_own hC.rel (by rw [hC.rows]; exact hr) hv
          have := bytes_run hbv (hT.slice hsl) (hT.int hint) (hT.str hst)
          simp only [execOp, hop]
          rw [Sem.run_bind, this]
          rfl
        · cases e
      · cases e
    · cases e
  · cases e
theorem ak_toStr (hT : TabOk X.P T) (S : List Nat) {av : AV} {dst : Option Tmp} (xs : List Int) (e : toStrAt T st k = some (av, dst, k')) (hb : BytesAV st.rows xs av) (hput : (St.put st dst (.d (.v (.string (strB xs))))).map (St.only S) = some st') (h : AK X f k' Q st') : AK X f k Q st := by
  obtain ⟨s0, h1, rfl⟩ := Option.map_eq_some_iff.1 hput
  exact ak_toStr0 hT xs e hb h1 (ak_only S h)
end
end Go.Sy
