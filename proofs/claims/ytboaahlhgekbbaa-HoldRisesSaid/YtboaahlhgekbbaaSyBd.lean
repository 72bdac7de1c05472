/- strings.Builder: a box with a row of bytes. -/
import Derived.Test.YtboaahlhgekbbaaSyStr2
import Derived.Test.YtboaahlhgekbbaaSyO
import Derived.Test.YtboaahlhgekbbaaSyY
import Derived.Lib.Builder
import Derived.Shelf.Strings.Builder1
set_option linter.unusedVariables false
set_option linter.unusedSimpArgs false
namespace Go.Sy

/-- A call behind which only what it hands back is remembered. -/
theorem ak_callRaw {X : Ctx} {f g : FuncId} {k k' : List Item} {Q : Frame → Frame → Conf → Prop} {st st' : St} {avs : List AV} {dst : Option Tmp} {rows' : List Row} {ret : AV}
    (e : callAt st k = some (g, avs, dst, k')) (he : Enters X.P g)
    (H : ∀ (C : Conf) (vs : List Value), HRel X C → C.rows = st.rows → AVRl C.w (C.ok X) C.μ avs vs → Calls X.P g vs.toArray C.w fun e w' => ∃ v C', e = .returned v ∧ C'.w = w' ∧ HRel X C' ∧ C'.rows = rows' ∧ AVR C'.w (C'.ok X) C'.μ ret v)
    (hput : St.put ⟨st.nt, [], rows'⟩ dst ret = some st') (h : AK X f k' Q st') : AK X f k Q st := by
  unfold callAt at e
  split at e
  · rename_i ops i rest k0
    split at e
    · rename_i o ho
      split at e
      · rename_i c hc
        split at e
        · rename_i gv hg
          refine ak_step h fun a C hC b cs _ => ?_
          have hrun : ∃ vs, (execOp a.eval o).run X.P C.w = .ok (.enter g vs.toArray) C.w ∧ AVRl C.w (C.ok X) C.μ avs vs ∧ guardOf st.tm ops o = some true ∧ o.dst = dst ∧ k' = .inRegion ops rest :: k0 := by
            have key : ∀ (fid : FuncId) (caps : Array Value), a.eval gv = .func (.func fid) #[] caps → fid = g → (execOp a.eval o).run X.P C.w = .ok (.enter g (c.args.map a.eval ++ caps)) C.w := by
              rintro fid caps hv rfl
              simp only [execOp, hc, resolve, hg, hv, Deferred.ofValue, Sem.run_bind, Sem.run_pure, Result.andThen_ok, invoke]
              rw [he]
              simp
            split at e
            · rename_i fid caps xs h1 h2 h3
              injection e with e; injection e with e1 e; injection e with e2 e; injection e with e3 e4
              subst e1; subst e2
              have hv := hC.val _ _ h2
              obtain ⟨cs, hcs, hr⟩ : ∃ cs, a.eval gv = .func (.func fid) #[] cs.toArray ∧ AVRs C.w (C.ok X) C.μ caps cs := by
                generalize a.eval gv = u at hv
                cases hv with
                | fn hv => exact ⟨_, rfl, hv⟩
              refine ⟨c.args.toList.map a.eval ++ cs, ?_, (mapVal_rel hC.val h3).append hr.toL, h1, e3, e4.symm⟩
              rw [key fid cs.toArray hcs rfl]
              congr 2
              exact Array.ext' (by simp)
            · rename_i fid caps xs h1 h2 h3
              injection e with e; injection e with e1 e; injection e with e2 e; injection e with e3 e4
              subst e1; subst e2
              have hv := hC.val _ _ h2
              obtain ⟨cs, hcs, hr⟩ : ∃ cs, a.eval gv = .func (.func fid) #[] cs.toArray ∧ VRs C.w (C.ok X) caps cs := by
                generalize a.eval gv = u at hv
                cases hv with
                | d hv =>
                  cases hv with
                  | fn hv => exact ⟨_, rfl, hv⟩
              refine ⟨c.args.toList.map a.eval ++ cs, ?_, (mapVal_rel hC.val h3).append (hr.toA).toL, h1, e3, e4.symm⟩
              rw [key fid cs.toArray hcs rfl]
              congr 2
              exact Array.ext' (by simp)
            · cases e
          obtain ⟨vs, hx, hargs, hgd, hdst, rfl⟩ := hrun
          subst hdst
          obtain ⟨e, w', fr, ⟨v, C', rfl, rfl, hrel, hrows, hret⟩, hsteps, _, hleave⟩ := H C vs hC.rel hC.rows hargs (b.atR a (.inRegion ops (i :: rest) :: k0) :: cs)
          have hgg := stepGR_op (P := X.P) (b := b) (k := k0) (cs := cs) (w := C.w) (rest := rest) ho (guard_wanted hC hgd)
          rw [Oper.semAt_eq _ _ _ (by intro c' hc'; rw [hc] at hc'; cases hc')] at hgg
          have henter : step X.P (lone (b.atR a (.inRegion ops (i :: rest) :: k0)) cs C.w) = .next (lone (Frame.enter X.P g vs.toArray .normal) (b.atR a (.inRegion ops (i :: rest) :: k0) :: cs) C.w) :=
            step_lone_go (by rw [hgg]; simp [stepG.apply, hx, Frame.atR])
          have hfin : (b.atR a (.inRegion ops (i :: rest) :: k0)).finish v = b.atR (a.put o.dst v) (.inRegion ops rest :: k0) := by
            rw [Frame.finish_atR, ho]; rfl
          have hsim : Sim X ⟨st.nt, [], rows'⟩ a C' := ⟨hrel, hrows, hC.defers, hC.nt, fun i av hi => by cases hi⟩
          refine ⟨_, C', hsim.put hput hret, .head henter (hsteps.trans (.one ?_))⟩
          rw [← hfin]
          exact step_leave_returned hleave
        · cases e
      · cases e
    · cases e
  · cases e

/-- A call that is handed rows, in a region whose order is left open. -/
theorem ak_callDR {X : Ctx} {f g : FuncId} {k k' : List Item} {Q : Frame → Frame → Conf → Prop} {st st' : St} {P : Program} {avs args : List AV} {dst : Option Tmp} (ids : List Nat) {rowsIn rowsOut : List Row} {ret : AV} (hP : X.P = P) (he : Enters P g) (hs : Says P g rowsIn args rowsOut ret)
    (e : callAt st k = some (g, avs, dst, k')) (hh : Hands st.rows ids rowsIn) (hp : PassL st.rows ids (moveTo ids st.rows.length) avs args)
    (hput : St.put { st with rows := afterCall st.rows ids rowsOut } dst (renA (moveTo ids st.rows.length) ret) = some st') (h : AK X f k' Q st') : AK X f k Q st := by
  subst hP
  exact ak_call ids e he hh hp hs hput h

/-- What a call turns: at most the block g; what it lays is new. -/
structure Aft (g : Option Nat) (w w' : World) : Prop where
  os : w'.os = w.os
  tape : w'.tape = w.tape
  output : w'.output = w.output
  drawn : w.drawn ≤ w'.drawn
  size : w.heap.size ≤ w'.heap.size
  block : ∀ k, k < w.heap.size → g ≠ some k → w'.heap[k]? = w.heap[k]?

theorem HRel.aft {X : Ctx} {C : Conf} {g : Option Nat} {w' : World} (h : HRel X C) (h0 : X.μ0 = []) (t : Aft g C.w w') (hg : ∀ k, g = some k → X.w0.heap.size ≤ k) : HRel X ⟨C.μ, C.rows.map fun _ => .gone, w'⟩ := by
  refine ⟨by simp [h.len], t.os.trans h.os, t.tape.trans h.tape, ⟨t.output.trans h.output.1, Nat.le_trans h.output.2 t.drawn⟩, Nat.le_trans h.size t.size, ?_, ?_, h.first, ?_, ?_, ?_, ?_, ?_⟩
  · intro b hb ho
    refine (t.block b (Nat.lt_of_lt_of_le hb h.size) fun e => ?_).trans (h.keep b hb ho)
    have := hg b e
    omega
  · intro b cs ty hc
    have hb := (Array.getElem?_eq_some_iff.1 hc).1
    obtain ⟨cs', h1, h2⟩ := h.shape b cs ty hc
    exact ⟨cs', (t.block b (Nat.lt_of_lt_of_le hb h.size) fun e => by have := hg b e; omega).trans h1, h2⟩
  · intro id b hb
    exact ⟨(h.place id b hb).1, Nat.lt_of_lt_of_le (h.place id b hb).2 t.size⟩
  · intro i j b r s _ _ h3 _ h5
    rw [List.getElem?_map] at h3
    obtain ⟨_, _, rfl⟩ := Option.map_eq_some_iff.1 h3
    cases h5
  · intro i m b r _ h3 h5
    rw [List.getElem?_map] at h3
    obtain ⟨_, _, rfl⟩ := Option.map_eq_some_iff.1 h3
    cases h5
  · intro i j m n b r s _ _ h3 _ h5
    rw [List.getElem?_map] at h3
    obtain ⟨_, _, rfl⟩ := Option.map_eq_some_iff.1 h3
    cases h5
  · intro id ob r _ h2
    rw [List.getElem?_map] at h2
    obtain ⟨_, _, rfl⟩ := Option.map_eq_some_iff.1 h2
    cases ob <;> trivial

/-- What (*strings.Builder).String does, at any world. -/
structure BldStr (P : Program) (f : FuncId) (T E : TypeId) : Prop where
  full : ∀ (b g cap : Nat) (p : Value) (cur : Array Value) (l : List UInt8) (w : World), l ≠ [] → l.length ≤ cap → cap ≤ maxLen → cur.size = cap → w.heap[b]? = some (.cells #[p, .slice (some ⟨g, 0, none⟩) l.length cap] T (0, 0)) →
    w.heap[g]? = some (.cells cur E (0, 0)) → (∀ (j : Nat) x, l[j]? = some x → cur[j]? = some (.int .u8 x.toNat)) → Calls P f #[.pointer (some ⟨b, 0, none⟩)] w fun e w' => e = .returned (.string ⟨l.toArray⟩) ∧ w' = w.drew.freeze ⟨g, 0, none⟩ l.length
  empty : ∀ (b : Nat) (p : Value) (w : World), w.heap[b]? = some (.cells #[p, .slice none 0 0] T (0, 0)) → Calls P f #[.pointer (some ⟨b, 0, none⟩)] w fun e w' => e = .returned (.string ⟨#[]⟩) ∧ w' = w.drew
  room : ∀ (b g cap : Nat) (p : Value) (w : World), cap ≠ 0 → w.heap[b]? = some (.cells #[p, .slice (some ⟨g, 0, none⟩) 0 cap] T (0, 0)) → Calls P f #[.pointer (some ⟨b, 0, none⟩)] w fun e w' => e = .returned (.string ⟨#[]⟩) ∧ w' = w.drew
  noroom : ∀ (b g : Nat) (p : Value) (cur : Array Value) (w : World), w.heap[b]? = some (.cells #[p, .slice (some ⟨g, 0, none⟩) 0 0] T (0, 0)) → w.heap[g]? = some (.cells cur E (0, 0)) →
    Calls P f #[.pointer (some ⟨b, 0, none⟩)] w fun e w' => e = .returned (.string ⟨#[]⟩) ∧ w' = w.drew.alloc (.view ⟨g, 0, none⟩ E)

theorem aft_drew (w : World) : Aft none w w.drew := ⟨rfl, rfl, rfl, Nat.le_succ _, Nat.le_refl _, fun _ _ _ => rfl⟩
theorem aft_alloc (w : World) (o : Obj) : Aft none w (w.drew.alloc o) := ⟨rfl, rfl, rfl, Nat.le_succ _, by rw [World.alloc, Array.size_push]; exact Nat.le_succ _, fun k hk _ => by
  simp only [World.alloc]
  exact (Array.getElem?_push_lt hk).trans (Array.getElem?_eq_getElem hk).symm⟩
theorem aft_freeze (w : World) (g n : Nat) : Aft (some g) w (w.drew.freeze ⟨g, 0, none⟩ n) := by
  by_cases h0 : n = 0
  · subst h0
    exact ⟨rfl, rfl, rfl, Nat.le_succ _, Nat.le_refl _, fun _ _ _ => rfl⟩
  · have e : w.drew.freeze ⟨g, 0, none⟩ n = { w.drew with heap := (w.drew.freeze ⟨g, 0, none⟩ n).heap } := by simp [World.freeze, h0]
    refine ⟨by rw [e]; rfl, by rw [e]; rfl, by rw [e]; rfl, by rw [e]; exact Nat.le_succ _, by simp only [World.freeze, if_neg h0, Array.size_modify]; exact Nat.le_refl _, fun k hk hg => ?_⟩
    have hkg : g ≠ k := fun e => hg (by rw [e])
    simp only [World.freeze, if_neg h0, Array.getElem?_modify, if_neg hkg]
    rfl

theorem bytesL_append (s t : ByteArray) : bytesL (s ++ t) = bytesL s ++ bytesL t := by
  unfold bytesL
  rw [ByteArray.data_append, Array.toList_append, List.map_append]

theorem bytes_get {s : ByteArray} {j : Nat} {x : UInt8} (h : s.data.toList[j]? = some x) : (bytesL s).getD j 0 = x.toNat := by
  unfold bytesL
  rw [List.getD_eq_getElem?_getD, List.getElem?_map, h]
  rfl

theorem ak_bldStr {X : Ctx} {f g : FuncId} {k k' : List Item} {Q : Frame → Frame → Conf → Prop} {st st' : St} {dst : Option Tmp} {P : Program} {T E : TypeId} (s : ByteArray) (bid id : Nat) (a : AV)
    (hP : X.P = P) (hb : BldStr P g T E) (he : Enters P g) (h0 : X.μ0.length = 0) (e : callAt st k = some (g, [.ptr bid 0 0 0], dst, k'))
    (hr1 : st.rows[bid]? = some (.box T [a, .own id 1 0 (bytesL s).length])) (hr2 : st.rows[id]? = some (.flat false 1 E (bytesL s).length (vec (eI .u8) 0 (bytesL s))))
    (hput : St.put ⟨st.nt, [], st.rows.map fun _ => .gone⟩ dst (.d (.v (.string s))) = some st') (h : AK X f k' Q st') : AK X f k Q st := by
  have hl0 : X.μ0 = [] := List.length_eq_zero_iff.1 h0
  refine ak_callRaw e (hP ▸ he) (fun C vs hC hrows hargs => ?_) hput h
  rw [← hrows] at hr1 hr2 ⊢
  cases hargs with
  | cons h1 hs =>
    cases hs
    cases h1 with
    | ptr hm =>
      rename_i b
      obtain ⟨us, c1, c2⟩ := hC.rel bid _ _ hm hr1
      cases c2 with
      | cons p1 c3 c4 =>
        rename_i pv us
        cases c4 with
        | cons p2 c5 c6 =>
          rename_i sv us
          cases c6
          have fin : ∀ (go : Option Nat), (∀ k, go = some k → X.w0.heap.size ≤ k) → ∀ (w' : World), Aft go C.w w' → ∃ v C', Ending.returned (.string s) = .returned v ∧ C'.w = w' ∧ HRel X C' ∧ C'.rows = C.rows.map (fun _ => Row.gone) ∧ AVR C'.w (C'.ok X) C'.μ (.d (.v (.string s))) v :=
            fun go hgo w' t => ⟨_, ⟨C.μ, C.rows.map fun _ => .gone, w'⟩, rfl, rfl, hC.aft hl0 t hgo, rfl, .d (.v rfl)⟩
          have hsz : (bytesL s).length = s.data.toList.length := by simp [bytesL]
          rw [hP]
          have hz : ∀ n, n = (bytesL s).length → n = 0 → s = ⟨#[]⟩ := fun n h1 h2 => by
            have hd : s.data.toList = [] := List.length_eq_zero_iff.1 (by rw [← hsz, ← h1, h2])
            cases s with
            | mk d =>
              have : d = #[] := Array.ext' hd
              rw [this]
          generalize hn : (bytesL s).length = n at c5
          generalize ho : (0 : Nat) = off at c5
          cases c5 with
          | own0 hμ =>
            have := hz 0 hn.symm rfl
            subst this
            exact (hb.empty b pv C.w c1).mono fun e w' ⟨e1, e2⟩ => by subst e1; subst e2; exact fin none (by intro _ h; cases h) _ (aft_drew _)
          | own hμ hh hs hn2 hc =>
            rename_i g cap cur ty
            subst ho
            obtain ⟨cur', ws, r1, r2, r3, r4, r5⟩ := hC.rel id _ _ hμ hr2
            rw [hh] at r1
            injection r1 with r1
            injection r1 with r1 r1'
            subst r1
            subst r1'
            have hg0 : X.w0.heap.size ≤ g := by
              rcases (hC.place id g hμ).1 with q | q
              · rcases q with q | q
                · rw [hl0] at q
                  cases q
                · exact absurd hl0 q.1
              · exact q
            rw [Nat.zero_mul] at c1
            by_cases hn0 : n = 0
            · have := hz n hn.symm hn0
              subst this
              subst hn0
              by_cases hc0 : cap = 0
              · subst hc0
                exact (hb.noroom b g pv cur C.w c1 hh).mono fun e w' ⟨e1, e2⟩ => by subst e1; subst e2; exact fin none (by intro _ h; cases h) _ (aft_alloc _ _)
              · exact (hb.room b g cap pv C.w hc0 c1).mono fun e w' ⟨e1, e2⟩ => by subst e1; subst e2; exact fin none (by intro _ h; cases h) _ (aft_drew _)
            · have hll : n = s.data.toList.length := hn.symm.trans hsz
              rw [hll] at c1
              have hcall := hb.full b g cap pv cur s.data.toList C.w (fun e => hn0 (by rw [hll, e]; rfl)) (by omega) hc (by omega) c1 hh (fun j x hx => ?_)
              · exact hcall.mono fun e w' ⟨e1, e2⟩ => by
                  subst e1; subst e2
                  rw [show (⟨s.data.toList.toArray⟩ : ByteArray) = s by simp]
                  exact fin (some g) (by intro k hk; cases hk; exact hg0) _ (aft_freeze _ _ _)
              · have hj : j < n := by rw [hll]; exact (List.getElem?_eq_some_iff.1 hx).1
                have hv := r4 j (by rw [hn]; exact hj)
                have hl := r3 j (by rw [hn]; exact hj)
                have hg5 := fun u => r5 j 0 u (by rw [hn]; exact hj)
                simp only [vec, eI, bytes_get hx] at hv
                generalize ws j = q at hv hl hg5
                cases hv with
                | cons o1 o2 o3 =>
                  cases o3
                  cases o2
                  have := hg5 _ rfl
                  simpa using this
/-- What (*strings.Builder).copyCheck does, at any world. -/
structure BldCopy (P : Program) (f : FuncId) (T : TypeId) : Prop where
  used : ∀ (b : Nat) (w : World), w.cell? ⟨b, 0, none⟩ = some (.pointer (some ⟨b, 0, none⟩)) → Calls P f #[.pointer (some ⟨b, 0, none⟩)] w fun e w' => e = .returned (.tuple #[]) ∧ w' = w
  fresh : ∀ (b : Nat) (w : World), w.cell? ⟨b, 0, none⟩ = some (.pointer none) → w.shape? b = some (T, 2) → w.frozen? ⟨b, 0, none⟩ = false →
    Calls P f #[.pointer (some ⟨b, 0, none⟩)] w fun e w' => e = .returned (.tuple #[]) ∧ w' = w.setCell ⟨b, 0, none⟩ (.pointer (some ⟨b, 0, none⟩))

theorem bld_rowR {w : World} {ok ok' : Bool → Nat → Prop} {μ : List (Option Nat)} {ob : Option Nat} {T E : TypeId} {n : Nat} {xs : List Int} {id : Nat} {r : Row} (hok : ∀ b, ok true b → ok' true b)
    (hr : [Row.box T [.ptr 0 0 0 0, .own 1 1 0 n], .flat false 1 E xs.length (vec (eI .u8) 0 xs)][id]? = some r) (h : RowRel w ok μ ob r) : RowRel w ok' μ ob r :=
  h.perm hok (match id, hr with
    | 0, rfl => .box (.cons (.ptr _ _ _ _) (.cons (.own _ _ _ _) .nil))
    | 1, rfl => nr_vec (nlI .u8)
    | _ + 2, h => by simp at h)

theorem cc_says {P : Program} {f : FuncId} {T E : TypeId} (h : BldCopy P f T) (a : AV) (ha : a = .d (.v (.pointer none)) ∨ a = .ptr 0 0 0 0) (n : Nat) (xs : List Int) :
    Says P f [.box T [a, .own 1 1 0 n], .flat false 1 E xs.length (vec (eI .u8) 0 xs)] [.ptr 0 0 0 0] [.box T [.ptr 0 0 0 0, .own 1 1 0 n], .flat false 1 E xs.length (vec (eI .u8) 0 xs)] (.tup []) := by
  intro X vs hP hF hC hargs
  cases hargs with
  | cons h1 hs =>
    cases hs
    cases h1 with
    | ptr hm =>
      rename_i b
      obtain ⟨us, c1, c2⟩ := hC.rel 0 _ _ hm rfl
      rw [Nat.zero_mul, Nat.zero_add]
      have hokr : ∀ (C : Conf) (b : Nat), C.ok X true b → C.okR X true b := fun _ _ h => ⟨rfl, h⟩
      rcases ha with rfl | rfl
      · cases c2 with
        | @cons _ _ _ us p1 c3 c4 =>
          cases c3 with
          | d c3 =>
            cases c3
            have hh : X.w0.heap[b]? = some (.cells (Value.pointer none :: us).toArray T (0, 0)) := c1
            have hsz : (Value.pointer none :: us).toArray.size = 2 := by
              have := c4.length
              simp at this
              simp [← this]
            refine (h.fresh b X.w0 (by rw [Lib.cell_of_heap hh]; rfl) (by simp only [World.shape?, hh, hsz]) (Lib.frozen_of_heap hh 0)).mono ?_
            rintro e w' ⟨rfl, rfl⟩
            have hh' : (X.w0.setCell ⟨b, 0, none⟩ (.pointer (some ⟨b, 0, none⟩))).heap[b]? = some (.cells (Value.pointer (some ⟨b, 0, none⟩) :: us).toArray T (0, 0)) := by
              simp [World.setCell, Array.getElem?_modify, hh]
            have tu : Turns X ⟨X.μ0, [Row.box T [.d (.v (.pointer none)), .own 1 1 0 n], .flat false 1 E xs.length (vec (eI .u8) 0 xs)], X.w0⟩ 0 b (.box T [.d (.v (.pointer none)), .own 1 1 0 n]) (.box T [.ptr 0 0 0 0, .own 1 1 0 n]) (X.w0.setCell ⟨b, 0, none⟩ (.pointer (some ⟨b, 0, none⟩))) :=
              ⟨hm, rfl, rfl, rfl, rfl, ⟨rfl, Nat.le_refl _⟩, by simp [World.setCell], fun k hk => by
                have hk' : b ≠ k := fun e => hk e.symm
                simp only [World.setCell, Array.getElem?_modify, if_neg hk'], fun cs ty hc => by
                  rw [hh] at hc
                  injection hc with hc
                  injection hc with e1 e2
                  subst e1
                  subst e2
                  exact ⟨_, hh', rfl⟩, fun _ _ => rfl, fun _ _ => rfl⟩
            have ev := Ev.turn hC tu
            have hrel := HRel.turn hC tu (.inl (by simp)) ⟨_, hh', .cons rfl (by
              have := AVR.ptr (w := X.w0.setCell ⟨b, 0, none⟩ (.pointer (some ⟨b, 0, none⟩))) (ok := ((⟨X.μ0, [Row.box T [.d (.v (.pointer none)), .own 1 1 0 n], .flat false 1 E xs.length (vec (eI .u8) 0 xs)], X.w0⟩ : Conf).turn 0 (.box T [.ptr 0 0 0 0, .own 1 1 0 n]) (X.w0.setCell ⟨b, 0, none⟩ (.pointer (some ⟨b, 0, none⟩)))).ok X) (id := 0) (k := 0) (i := 0) (off := 0) hm
              simpa using this) (c4.mono ev.ok ev.same ev.pre ev.shape)⟩
            exact ⟨_, X.μ0, rfl, hrel, fun id ob r e1 e2 => bld_rowR (hokr _) e2 (hrel.rel id ob r e1 e2), .tup .nil⟩
      · have hc0 : X.w0.cell? ⟨b, 0, none⟩ = some (.pointer (some ⟨b, 0, none⟩)) := by
          rw [Lib.cell_of_heap c1]
          cases c2 with
          | cons p1 c3 c4 =>
            cases c3 with
            | ptr hm2 =>
              rw [hm] at hm2
              cases hm2
              simp
        refine (h.used b X.w0 hc0).mono ?_
        rintro e w' ⟨rfl, rfl⟩
        exact ⟨_, X.μ0, rfl, hC, fun id ob r e1 e2 => bld_rowR (hokr _) e2 (hC.rel id ob r e1 e2), .tup .nil⟩
end Go.Sy
