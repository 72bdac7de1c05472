/- Sorting addresses by what lies there. -/
import Derived.Test.YtboaahlhgekbbaaSyPtr
import Derived.Test.YtboaahlhgekbbaaSyS
set_option linter.unusedVariables false
set_option linter.unusedSimpArgs false
set_option linter.unusedSectionVars false
namespace Go.Sy
open Go.Proofs Go.Shelf Go.Sort Go.Lib

def clampD (dom : List Nat) (a : Nat) : Nat := if a ∈ dom then a else dom.headD 0
def cfD {α : Type} (cf : α → α → Int) (dom : List Nat) (M : Nat → α) (a b : Nat) : Int := cf (M (clampD dom a)) (M (clampD dom b))
def encP (dom : List Nat) (a : Nat) : Value := .pointer (some ⟨clampD dom a, 0, none⟩)
theorem clamp_mem {dom : List Nat} (h : dom ≠ []) (a : Nat) : clampD dom a ∈ dom := by
  unfold clampD
  split
  · assumption
  · cases dom with
    | nil => exact absurd rfl h
    | cons x xs => simp
theorem clamp_id {dom : List Nat} {a : Nat} (h : a ∈ dom) : clampD dom a = a := if_pos h
theorem swo_cfD {α : Type} {cf : α → α → Int} (h : SWO (ltOf cf)) (dom : List Nat) (M : Nat → α) : SWO (ltOf (cfD cf dom M)) :=
  ⟨fun x => h.irrefl _, fun x y z => h.trans _ _ _, fun x y z => h.ntrans _ _ _⟩

/-- A comparison of two objects that are looked at: it draws and lays blocks, no more. -/
theorem cmp_look {P : Program} {g : FuncId} {α : Type} {e : α → List DV} {cap : DV} {cf : α → α → Int}
    (hs : ∀ x y, Says P g [] [.d (.rop false 1 (fun _ => e x) 0 0), .d (.rop false 1 (fun _ => e y) 0 0), .d cap] [] (.d (.v (.int .i64 (cf x y))))) (x y : α) (W : World) {ok : Bool → Nat → Prop} (hok : ∀ t b, ok t b → b < W.heap.size) {a b : Nat} {va vb : List Value} {tya tyb : TypeId} {c : Value}
    (ha : W.heap[a]? = some (.cells va.toArray tya (0, 0))) (ra : VRs W ok (e x) va) (hb : W.heap[b]? = some (.cells vb.toArray tyb (0, 0))) (rb : VRs W ok (e y) vb) (rc : VR W ok cap c) :
    Calls P g #[.pointer (some ⟨a, 0, none⟩), .pointer (some ⟨b, 0, none⟩), c] W fun e w' => e = .returned (.int .i64 (cf x y)) ∧ ∃ q os', w' = grow (W.drewN q) os' := by
  have h0 : HRel (lawCtx P W) ⟨[], [], W⟩ := ⟨rfl, rfl, rfl, ⟨rfl, Nat.le_refl _⟩, Nat.le_refl _, fun _ _ _ => rfl, fun _ _ _ k => ⟨_, k, rfl⟩, fun _ _ k => k, fun _ _ h => by simp at h, fun _ _ _ _ _ h => by simp at h, fun _ _ _ _ h => by simp at h, fun _ _ _ _ _ _ _ h => by simp at h, fun _ _ _ h => by simp at h⟩
  have hok2 : ∀ t b, b < W.heap.size → (⟨[], [], W⟩ : Conf).ok (lawCtx P W) t b := fun t b hb => ⟨hb, by rintro ⟨i, m, r, h1, _⟩; simp at h1, fun _ => .inl hb⟩
  have hrop : ∀ {x : α} {a : Nat} {va : List Value} {tya : TypeId}, W.heap[a]? = some (.cells va.toArray tya (0, 0)) → VRs W ok (e x) va → VR W ((⟨[], [], W⟩ : Conf).ok (lawCtx P W)) (.rop false 1 (fun _ => e x) 0 0) (.pointer (some ⟨a, 0, none⟩)) := by
    intro x a va tya ha ra
    have := VR.rop (w := W) (ok := (⟨[], [], W⟩ : Conf).ok (lawCtx P W)) (t := false) (n := 1) (g := fun _ => e x) (i := 0) (off := 0) (b := a) (o := 0) va.length (fun _ => va) (by omega)
      (hok2 _ _ (Array.getElem?_eq_some_iff.1 ha).1) (fun _ _ => rfl) (fun _ _ => ra.mono (fun t b h => hok2 t b (hok t b h)) (fun _ _ _ => rfl)) (fun i j v hi hj => by
        have hi : i = 0 := by omega
        subst hi
        rw [cell_of_row _ _ _ _ _ _ ha]
        simpa using hj)
    simpa using this
  have := hs x y (lawCtx P W) [.pointer (some ⟨a, 0, none⟩), .pointer (some ⟨b, 0, none⟩), c] rfl (fun b hb => ⟨hb, by simp [Ctx.own0, lawCtx]⟩) h0 (.cons (.d (hrop ha ra)) (.cons (.d (hrop hb rb)) (.cons (.d (rc.mono (fun t b h => hok2 t b (hok t b h)) (fun _ _ _ => rfl))) .nil)))
  refine this.mono ?_
  rintro e0 w' ⟨v, μ', rfl, hd⟩
  have hr := hd.ret
  cases hr with
  | d hr =>
    cases hr with
    | v hr =>
      refine ⟨rfl, w'.drawn - W.drawn, w'.heap.extract W.heap.size w'.heap.size, ?_⟩
      have hk := hd.rel.keep
      have hsz := hd.rel.size
      have ho := hd.rel.output
      have hos := hd.rel.os
      have ht := hd.rel.tape
      simp only [lawCtx] at hk hsz ho hos ht
      have hh : w'.heap = W.heap ++ w'.heap.extract W.heap.size w'.heap.size := by
        apply Array.ext_getElem?
        intro i
        by_cases hi : i < W.heap.size
        · rw [Array.getElem?_append_left hi]
          exact hk i hi (by simp [Ctx.own0])
        · rw [Array.getElem?_append_right (by omega), Array.getElem?_extract]
          by_cases hi2 : i < w'.heap.size
          · rw [if_pos (by omega)]
            congr 1
            omega
          · rw [if_neg (by omega)]
            exact Array.getElem?_eq_none (by omega)
      cases w'
      cases W
      simp only at hh ho hos ht hsz ⊢
      obtain ⟨ho1, ho2⟩ := ho
      subst hos
      subst ht
      subst ho1
      simp only [grow, World.drewN, World.mk.injEq, true_and, and_true]
      exact ⟨hh, by omega⟩


theorem encP_id {dom : List Nat} {a : Nat} (h : a ∈ dom) : encP dom a = .pointer (some ⟨a, 0, none⟩) := by rw [encP, clamp_id h]

theorem sort_saysA {P : Program} {ρ : Ren} {α : Type} (L : SlLaysF.n6 P ρ) {e : α → List DV} {he : ∀ x, NLs (e x)} {ty te : TypeId} {cap : DV} (cf : α → α → Int) (hO : SWO (ltOf cf)) (g : Nat)
    (eg : ∀ args w, (callFunc g args).run P w = .ok (.enter g args) w)
    (hs : ∀ x y, Says P g [] [.d (.rop false 1 (fun _ => e x) 0 0), .d (.rop false 1 (fun _ => e y) 0 0), .d cap] [] (.d (.v (.int .i64 (cf x y))))) {l dom : List Nat} {M : Nat → α} (hsub : ∀ a ∈ l, a ∈ dom) (hsz : l.length < 4611686018427387904) :
    Says P (ρ.f 6) [.flat false 1 te l.length (vec eA 0 l), .obj (arO e he ty dom M)] [.own 0 1 0 l.length, .d (.fn g [cap])] [.flat false 1 te l.length (vec eA 0 (sortL 0 (cfD cf dom M) l)), .obj (arO e he ty dom M)] (.tup []) := by
  intro X vs hP hF hrel hargs
  subst hP
  have hO' := swo_cfD hO dom M
  have hlen := sortL_length 0 hO' l
  have hperm := sortL_perm 0 hO' l
  let C0 : Conf := ⟨X.μ0, [.flat false 1 te l.length (vec eA 0 l), .obj (arO e he ty dom M)], X.w0⟩
  have fin : ∀ {C' : Conf}, HRel X C' → C'.rows = [.flat false 1 te l.length (vec eA 0 (sortL 0 (cfD cf dom M) l)), .obj (arO e he ty dom M)] → Done X ⟨C'.μ, [.flat false 1 te l.length (vec eA 0 (sortL 0 (cfD cf dom M) l)), .obj (arO e he ty dom M)], C'.w⟩ (.tup []) (.tuple #[]) := by
    intro C' h hr
    have h' : HRel X ⟨C'.μ, [.flat false 1 te l.length (vec eA 0 (sortL 0 (cfD cf dom M) l)), .obj (arO e he ty dom M)], C'.w⟩ := by rw [← hr]; exact h
    refine ⟨h', fun j ob r e1 e2 => (h'.rel j ob r e1 e2).perm (fun _ h => ⟨rfl, h⟩) ?_, .tup .nil⟩
    have := List.mem_of_getElem? e2
    simp only [List.mem_cons, List.not_mem_nil, or_false] at this
    rcases this with rfl | rfl
    · exact nr_vec nlA
    · exact .obj _
  cases hargs with
  | cons ha hs' =>
  cases hs' with
  | cons hf hn =>
  cases hn
  cases hf with
  | d hf =>
  cases hf with
  | fn hf =>
  cases hf with
  | cons oc rc rn =>
  cases rn
  rename_i c
  have hnone : ∀ (p : Option Addr) (k : Nat), l = [] → Calls X.P (ρ.f 6) #[.slice p 0 k, .func (.func g) #[] #[c]] X.w0 fun en w' => ∃ v μ', en = .returned v ∧ Done X ⟨μ', [.flat false 1 te l.length (vec eA 0 (sortL 0 (cfD cf dom M) l)), .obj (arO e he ty dom M)], w'⟩ (.tup []) v := by
    intro p k hl
    refine (AnyF.slices_SortFunc_none { L with } p k _ X.w0).mono ?_
    rintro e0 w' ⟨rfl, rfl⟩
    refine ⟨_, X.μ0, rfl, fin (C' := ⟨X.μ0, _, X.w0⟩) hrel ?_⟩
    have : sortL 0 (cfD cf dom M) l = l := by
      subst hl
      exact List.length_eq_zero_iff.1 hlen
    rw [this]
  generalize hN : l.length = N at ha
  cases ha with
  | own0 hm =>
    have h0 := hnone none 0 (List.length_eq_zero_iff.1 hN)
    rw [hN] at h0
    exact h0
  | @own _ _ _ _ b k cs ty' hm hh hs2 hn hcap =>
    by_cases hl0 : l = []
    · have hN0 : N = 0 := by rw [← hN, hl0]; rfl
      subst hN0
      have h0 := hnone (some ⟨b, 0 * 1, none⟩) k hl0
      rw [hN] at h0
      exact h0
    have hdne : dom ≠ [] := by
      rintro rfl
      cases l with
      | nil => exact hl0 rfl
      | cons a _ => exact absurd (hsub a (List.mem_cons_self ..)) (by simp)
    have hrow := hrel.rel 0 (some b) _ hm rfl
    obtain ⟨cs2, vs, r1, r2, r3, r4, r5⟩ := hrow
    have hh2 : cs2 = cs ∧ te = ty' := by
      have := r1.symm.trans hh
      injection this with this
      injection this with a1 a2 a3
      exact ⟨a1, a2⟩
    obtain ⟨rfl, rfl⟩ := hh2
    have hblk : b < X.w0.heap.size := (Array.getElem?_eq_some_iff.1 hh).1
    subst hN
    obtain ⟨mA, hμA⟩ := hrel.muOf (id := 1) (r := .obj (arO e he ty dom M)) rfl
    have hobj : (arO e he ty dom M).rel X.w0 (C0.ok X) mA := by
      have := hrel.rel 1 mA _ hμA rfl
      cases mA <;> exact this
    have hbd : ∀ a ∈ dom, a ≠ b := by
      rintro a ha rfl
      exact (hrel.apartX 1 0 mA _ a _ _ hμA hm rfl rfl ha (by simp)).1 rfl
    have hblive : C0.live b := ⟨0, some b, _, hm, rfl, rfl, .inl rfl⟩
    have hcell : ∀ j, j < l.length → cs2[j]? = some (encP dom (l.getD j 0)) := by
      intro j hj
      have g3 := r3 j hj
      have g4 := r4 j hj
      have g5 := r5 j 0
      generalize vs j = u at g3 g4 g5
      simp only [vec, eA] at g4
      cases g4 with
      | cons o1 o2 o3 =>
        cases o2 with
        | v hx =>
          have := g5 _ hj rfl
          rw [Nat.mul_one, Nat.add_zero] at this
          rw [this, encP_id (hsub _ ?_)]
          rw [List.getD_eq_getElem?_getD, List.getElem?_eq_getElem hj]
          exact List.getElem_mem hj
    have hHolds : Go.Sort.Holds (encP dom) X.w0 b 0 l.toArray := by
      intro j hj
      simp only [List.size_toArray] at hj
      have hc2 := hcell j hj
      have hx : l.toArray[j]! = l.getD j 0 := by
        rw [getElem!_pos _ _ (by simpa using hj)]
        simp [hj]
      refine ⟨?_, ?_⟩
      · simp only [World.cell?, hh, hx]
        simpa using hc2
      · simp only [World.frozen?, hh]
        simp
    have hWheap : ∀ (m : Nat) (dk : Array Nat) (os : Array Obj) (q : Nat), q < X.w0.heap.size → q ≠ b → (sortWorld (encP dom) X.w0 b 0 m dk os).heap[q]? = X.w0.heap[q]? := by
      intro m dk os q hq hne
      have : (sortWorld (encP dom) X.w0 b 0 m dk os).heap = X.w0.heap.modify b (onCells (putCells (encP dom) 0 dk)) ++ os := rfl
      rw [this, Array.getElem?_append_left (by simpa using hq)]
      simp [Array.getElem?_modify, Ne.symm hne]
    have hWsize : ∀ (m : Nat) (dk : Array Nat) (os : Array Obj), X.w0.heap.size ≤ (sortWorld (encP dom) X.w0 b 0 m dk os).heap.size := by
      intro m dk os
      have : (sortWorld (encP dom) X.w0 b 0 m dk os).heap = X.w0.heap.modify b (onCells (putCells (encP dom) 0 dk)) ++ os := rfl
      rw [this, Array.size_append, Array.size_modify]
      omega
    have hcmp : CmpLays1 X.P g #[c] (encP dom) (cfD cf dom M) b 0 l.toArray.size X.w0 := by
      intro m os dk _ x y
      have hoksame : ∀ t q, C0.ok X t q → (sortWorld (encP dom) X.w0 b 0 m dk os).heap[q]? = X.w0.heap[q]? := fun t q hq => hWheap m dk os q hq.1 (by rintro rfl; exact hq.2.1 hblive)
      obtain ⟨va, a1, a2⟩ := hobj.2 _ (clamp_mem hdne x)
      obtain ⟨vb, b1, b2⟩ := hobj.2 _ (clamp_mem hdne y)
      have ina := (Array.getElem?_eq_some_iff.1 a1).1
      have inb := (Array.getElem?_eq_some_iff.1 b1).1
      have := cmp_look hs (M (clampD dom x)) (M (clampD dom y)) (sortWorld (encP dom) X.w0 b 0 m dk os) (ok := C0.ok X) (fun t q hq => Nat.lt_of_lt_of_le hq.1 (hWsize m dk os))
        ((hWheap m dk os _ ina (hbd _ (clamp_mem hdne x))).trans a1) (a2.mono (fun _ _ h => h) hoksame) ((hWheap m dk os _ inb (hbd _ (clamp_mem hdne y))).trans b1) (b2.mono (fun _ _ h => h) hoksame) (rc.mono (fun _ _ h => h) hoksame)
      exact this
    have main := Any.slices_SortFunc_eq L (encP dom) (fun _ => rfl) (cfD cf dom M) hO' g #[c] b 0 k l.toArray X.w0 eg hcmp hHolds hblk (by simpa using hsz)
    rw [show ([Value.slice (some ⟨b, 0 * 1, none⟩) l.length k, Value.func (.func g) #[] ([c] : List Value).toArray] : List Value).toArray = #[.slice (some ⟨b, 0, none⟩) l.toArray.size k, .func (.func g) #[] #[c]] by simp]
    refine main.mono ?_
    rintro e0 w' ⟨rfl, n, os, rfl⟩
    have hyl : (pdq (ltOf (cfD cf dom M)) l.toArray 0 l.toArray.size (Lib.bitLen l.toArray.size) true true).toList = sortL 0 (cfD cf dom M) l := rfl
    generalize hY : pdq (ltOf (cfD cf dom M)) l.toArray 0 l.toArray.size (Lib.bitLen l.toArray.size) true true = ya at hyl
    have hya : ya.size = l.length := by rw [← hlen, ← hyl]; simp
    have hw1 : (putRow (encP dom) (Sort.ahead X.w0 n) b 0 ya).heap = X.w0.heap.modify b (onCells (putCells (encP dom) 0 ya)) := rfl
    have hat : (putRow (encP dom) (Sort.ahead X.w0 n) b 0 ya).heap[b]? = some (.cells (putCells (encP dom) 0 ya cs2) te (0, 0)) := by
      rw [hw1]
      simp [Array.getElem?_modify, hh, onCells]
    have hsize : (putCells (encP dom) 0 ya cs2).size = cs2.size := by simp [putCells]
    have tu : Turns X C0 0 b (.flat false 1 te l.length (vec eA 0 l)) (.flat false 1 te l.length (vec eA 0 (sortL 0 (cfD cf dom M) l))) (putRow (encP dom) (Sort.ahead X.w0 n) b 0 ya) := by
      refine ⟨hm, rfl, rfl, rfl, rfl, ⟨rfl, Nat.le_add_right _ _⟩, ?_, ?_, ?_, fun _ _ => rfl, fun _ _ => rfl⟩
      · rw [hw1]; simp [C0]
      · intro q hq
        rw [hw1]
        simp [C0, Array.getElem?_modify, Ne.symm hq]
      · intro cs3 ty3 h3
        have : cs3 = cs2 ∧ ty3 = te := by
          have := h3.symm.trans hh
          injection this with this
          injection this with a1 a2 a3
          exact ⟨a1, a2⟩
        obtain ⟨rfl, rfl⟩ := this
        exact ⟨_, hat, hsize⟩
    have hrow2 : ∀ (ok : Bool → Nat → Prop), RowRel (putRow (encP dom) (Sort.ahead X.w0 n) b 0 ya) ok X.μ0 (some b) (.flat false 1 te l.length (vec eA 0 (sortL 0 (cfD cf dom M) l))) := by
      intro ok
      refine ⟨_, fun i => [.pointer (some ⟨(sortL 0 (cfD cf dom M) l).getD i 0, 0, none⟩)], hat, ?_, fun i _ => rfl, fun i _ => .cons rfl (.v rfl) .nil, ?_⟩
      · rw [hsize]; exact r2
      · intro i j v hi hj
        have hj0 : j = 0 := by
          have := (List.getElem?_eq_some_iff.1 hj).1
          simp at this
          exact this
        subst hj0
        simp at hj
        subst hj
        have lt2 : i < cs2.size := by omega
        rw [Nat.mul_one, Nat.add_zero]
        simp only [putCells, Array.getElem?_mapIdx]
        rw [Array.getElem?_eq_getElem lt2]
        have lty : i < ya.size := by omega
        simp only [Option.map_some, Nat.zero_le, true_and, Nat.zero_add, lty, if_true, Nat.sub_zero]
        have hyi : ya[i]! = (sortL 0 (cfD cf dom M) l).getD i 0 := by
          rw [getElem!_pos _ _ (by omega), ← hyl]
          simp [hya, hi]
        rw [hyi, encP_id (hsub _ (hperm.mem_iff.1 ?_))]
        · simp
        · have : i < (sortL 0 (cfD cf dom M) l).length := by omega
          rw [List.getD_eq_getElem?_getD, List.getElem?_eq_getElem this]
          exact List.getElem_mem this
    have h2 := HRel.turn (C := C0) hrel tu (.inl (by simp)) (hrow2 _)
    have h3 := h2.grown (w' := sortWorld (encP dom) X.w0 b 0 n ya os) ⟨rfl, rfl, ⟨rfl, Nat.le_refl _⟩, by simp [sortWorld, grow, Conf.turn], fun q hq => by
      simp only [sortWorld, grow, Conf.turn] at hq ⊢
      exact Array.getElem?_append_left hq⟩
    exact ⟨_, X.μ0, rfl, fin h3 rfl⟩
end Go.Sy
