/- Hold: what is popped has rising stamps. -/
import Derived.Test.YtboaahlhgekbbaaP06V
set_option linter.unusedVariables false
set_option linter.unusedSimpArgs false
namespace Go.SyP
open Go Go.Sy

def lastS (l : List api_Stamp) : api_Stamp := l.getD (l.length - 1) api_Stamp.z
theorem lastS_snoc (l : List api_Stamp) (s : api_Stamp) : lastS (l ++ [s]) = s := by
  unfold lastS
  rw [List.length_append, List.length_singleton, Nat.add_sub_cancel]
  simp
structure WI (i : Nat) (w : splicelaw06_World) : Prop where
  n : w.q.l.length + w.popped.length ≤ i
  fl : 0 ≤ w.floor ∧ w.floor ≤ w.clock
  ck : w.clock ≤ 16 * (i : Int)
  items : ∀ x ∈ w.q.l, w.floor < x.Time ∧ x.Time ≤ w.clock ∧ (0 < w.popped.length → ltS (lastS w.popped) (stampH x))
  last : 0 < w.popped.length → (lastS w.popped).Time ≤ w.clock

theorem WI.succ {i : Nat} {w : splicelaw06_World} (h : WI i w) : WI (i + 1) w := ⟨Nat.le_succ_of_le h.n, h.fl, by have := h.ck; omega, h.items, h.last⟩

theorem pops (a0 : splicelaw06_World) (y : Int) {i : Nat} (hi : i ≤ 150) : ∀ s, (∃ q popped, s = splicelaw06_World_step.S.l1 q popped ∧ WI i ⟨q, y, popped, a0.floor⟩) →
    ∃ w', goLoop (splicelaw06_World_step.step a0 y) s = some (true, w') ∧ WI i w' := by
  refine loop_run _ (fun s => match s with | .l1 q _ => q.l.length) (fun r => ∃ w', r = some (true, w') ∧ WI i w') ?_
  rintro s ⟨⟨L, g⟩, popped, rfl, h⟩
  have hn := h.n
  have hfl := h.fl
  have hck := h.ck
  simp only at hn hfl hck
  simp only [splicelaw06_World_step.step, splicelaw06_World_step.l1, bnd]
  have stop : ∀ (q : QL) (hq : q.l = L), ¬ qFloor q y < a0.floor ∧ WI i ⟨q, y, popped, qFloor q y⟩ := by
    rintro ⟨L', g'⟩ rfl
    cases L' with
    | nil =>
      simp only [qFloor]
      exact ⟨by omega, ⟨h.n, ⟨show (0 : Int) ≤ y by omega, Int.le_refl _⟩, h.ck, fun x hx => (by cases hx), h.last⟩⟩
    | cons x xs =>
      have hx := h.items x (List.mem_cons_self ..)
      simp only at hx
      have hw : IntKind.wrap .i64 (x.Time - 1) = x.Time - 1 := wr (by omega)
      simp only [qFloor, hw]
      refine ⟨by omega, ⟨h.n, ⟨by simp only; omega, by simp only; omega⟩, h.ck, fun z hz => ?_, h.last⟩⟩
      have hz' := h.items z hz
      refine ⟨?_, hz'.2⟩
      simp only
      rcases List.mem_cons.1 hz with rfl | hz
      · omega
      · have := (List.pairwise_cons.1 g.up).1 z hz
        unfold ltH ltS stampH at this
        simp only at this
        omega
  cases L with
  | nil =>
    right
    obtain ⟨s1, s2⟩ := stop ⟨[], g⟩ rfl
    simp only [qPop, Bool.false_eq_true, if_false]
    exact ⟨_, if_neg s1, _, rfl, s2⟩
  | cons x xs =>
    cases hf : x.Final with
    | false =>
      right
      obtain ⟨s1, s2⟩ := stop ⟨x :: xs, g⟩ rfl
      rw [pop_stop (g := g) hf]
      simp only [Bool.false_eq_true, if_false]
      exact ⟨_, if_neg s1, _, rfl, s2⟩
    | true =>
      left
      obtain ⟨g', e⟩ := pop_cons (g := g) hf
      have hx := h.items x (List.mem_cons_self ..)
      simp only at hx
      have hs : mut_Stamp x.Time x.M = stampH x := rfl
      simp only [e, if_true, hs]
      have hd : decide (x.Time ≤ a0.floor) = false := decide_eq_false (by omega)
      have hj : splicelaw06_World_step.j3 a0 y popped (x, true, (⟨xs, g'⟩ : QL)) (stampH x) false = some (.inl (.l1 ⟨xs, g'⟩ (popped ++ [stampH x]))) := by
        simp only [splicelaw06_World_step.j3, Bool.false_eq_true, if_false]
        rw [if_pos (by omega)]
      have hw : WI i ⟨⟨xs, g'⟩, y, popped ++ [stampH x], a0.floor⟩ := by
        refine ⟨by simp at hn ⊢; omega, h.fl, h.ck, fun z hz => ?_, fun _ => ?_⟩
        · have hz' := h.items z (List.mem_cons_of_mem _ hz)
          refine ⟨hz'.1, hz'.2.1, fun _ => ?_⟩
          simp only [lastS_snoc]
          exact (List.pairwise_cons.1 g.up).1 z hz
        · simp only [lastS_snoc]
          exact hx.2.1
      refine ⟨.l1 ⟨xs, g'⟩ (popped ++ [stampH x]), ?_, .inl ⟨⟨_, _, rfl, hw⟩, by simp⟩⟩
      by_cases hp : (popped.length : Int) > 0
      · have hwr : IntKind.wrap .i64 ((popped.length : Int) - 1) = ((popped.length - 1 : Nat) : Int) := by rw [wr (by omega)]; omega
        rw [if_pos hp, hwr]
        rw [if_pos (by omega), mut_Compare_eq, Option.bind_some]
        simp only [Int.toNat_natCast]
        have hlt := (cmpS_lt _ _).2 (hx.2.2 (by omega))
        unfold lastS at hlt
        rw [if_neg (by omega), hd]
        exact hj
      · rw [if_neg hp, hd]
        exact hj

theorem step_holds {w : splicelaw06_World} {i : Nat} (h : WI i w) (hi : i < 150) (m : api_Mut) (hm : m.Pairs.length ≤ 20) (more : Int) (hmore : -16 < more ∧ more < 16) (add : Bool) :
    ∃ w', splicelaw06_World_step w m more add = some (true, w') ∧ WI (i + 1) w' := by
  have hn := h.n
  have hfl := h.fl
  have hck := h.ck
  have keep : ∃ w', splicelaw06_World_step.j2 w w.clock w.q = some (true, w') ∧ WI (i + 1) w' := by
    unfold splicelaw06_World_step.j2
    exact pops w w.clock (by omega) _ ⟨w.q, w.popped, rfl, h.succ⟩
  unfold splicelaw06_World_step
  cases add with
  | true =>
    have hw : IntKind.wrap .i64 (w.clock + 1) = w.clock + 1 := wr (by omega)
    rw [if_pos rfl, hw, qAdd_eq _ _ (by simp only; omega) (by omega), Option.bind_some]
    by_cases hc : mOk m = true ∧ timedB (w.clock + 1) = true
    · rw [if_pos hc]
      unfold qPut
      split
      · rw [if_neg (show ¬ (7 : Int) = 0 by decide)]
        exact keep
      · rename_i e
        rw [dif_pos (show m.Pairs.length ≤ 1000000 by omega), if_pos rfl]
        unfold splicelaw06_World_step.j2
        refine pops w (w.clock + 1) (i := i + 1) (by omega) _ ⟨_, w.popped, rfl, ⟨?_, ⟨by simp only; omega, by simp only; omega⟩, by simp only; omega, fun x hx => ?_, fun hp => ?_⟩⟩
        · have := (insH_perm (⟨m, w.clock + 1, false⟩ : api_Held) w.q.l).length_eq
          simp at this ⊢
          omega
        · rcases List.mem_cons.1 ((insH_perm _ _).mem_iff.1 hx) with rfl | hx
          · refine ⟨by simp only; omega, by simp only; omega, fun hp => ?_⟩
            have := h.last hp
            simp only [ltS, stampH]
            left
            try simp only at this ⊢
            omega
          · have := h.items x hx
            exact ⟨this.1, by simp only; omega, this.2.2⟩
        · have := h.last hp
          try simp only at this ⊢
          omega
    · rw [if_neg hc, if_neg (show ¬ (1 : Int) = 0 by decide)]
      exact keep
  | false =>
    rw [if_neg (by decide)]
    unfold qFind
    split
    · rename_i x e
      obtain ⟨e1, e2⟩ := finH_mem e
      have hx := h.items x e1
      have hw : IntKind.wrap .i64 (x.Time + more) = x.Time + more := wr (by omega)
      simp only [if_true, hw]
      unfold qFinal
      split
      · rename_i x' e'
        obtain rfl : x' = x := by rw [e] at e'; injection e' with e'; exact e'.symm
        by_cases hf : x'.Final = true
        · rw [if_pos hf]
          simp only [show ((7 : Int) == 0) = false by decide, splicelaw06_World_step.j1, Bool.false_eq_true, if_false]
          exact keep
        · rw [if_neg hf]
          by_cases ht : x'.Time + more < x'.Time ∨ timedB (x'.Time + more) = false
          · rw [if_pos ht]
            simp only [show ((1 : Int) == 0) = false by decide, splicelaw06_World_step.j1, Bool.false_eq_true, if_false]
            exact keep
          · rw [if_neg ht]
            have ht' : ¬ x'.Time + more < x'.Time := fun k => ht (.inl k)
            simp only [show ((0 : Int) == 0) = true by decide, splicelaw06_World_step.j1, if_true]
            simp only [qFind, e, hw]
            unfold splicelaw06_World_step.j2
            have hmax : w.clock ≤ iMax w.clock (x'.Time + more) ∧ x'.Time + more ≤ iMax w.clock (x'.Time + more) ∧ iMax w.clock (x'.Time + more) ≤ w.clock + 16 := by
              unfold iMax
              split <;> omega
            refine pops w _ (i := i + 1) (by omega) _ ⟨_, w.popped, rfl, ⟨?_, ⟨by simp only; omega, by simp only; omega⟩, by simp only; omega, fun y hy => ?_, fun hp => ?_⟩⟩
            · have h1 := (insH_perm (toFinal x' (x'.Time + more)) (delH m.Client m.Seq w.q.l)).length_eq
              have h2 := (delH_perm w.q.good.apart e1 e2).length_eq
              simp at h1 h2 ⊢
              omega
            · rcases List.mem_cons.1 ((insH_perm _ _).mem_iff.1 hy) with rfl | hy
              · refine ⟨by simp only [toFinal]; omega, by simp only [toFinal]; omega, fun hp => ?_⟩
                have := hx.2.2 hp
                simp only [ltS, stampH, toFinal] at this ⊢
                omega
              · have := h.items y (List.mem_filter.1 hy).1
                exact ⟨this.1, by simp only; omega, this.2.2⟩
            · have := h.last hp
              try simp only at this ⊢
              omega
      · rename_i e'
        rw [e] at e'
        cases e'
    · rw [if_neg (by decide)]
      simp only [splicelaw06_World_step.j1, Bool.false_eq_true, if_false]
      exact keep

theorem splicelaw06_HoldRises_true (a0 : List splicelaw06_Come) {p : Prop} (w0 : a0.length ≤ maxLen ∧ p) : splicelaw06_HoldRises a0 = some true := by
  have hL : a0.length ≤ 9223372036854775807 := Nat.le_trans w0.1 (by decide)
  unfold splicelaw06_HoldRises
  simp only [bnd]
  rw [awake_eq, Option.bind_some, if_pos rfl]
  unfold splicelaw06_HoldRises.j1
  rw [if_neg (by decide)]
  refine loop_run (fun s => ∃ (i : Nat) (w : splicelaw06_World), s = splicelaw06_HoldRises.S.l1 i w.clock w.floor w.q w.popped ∧ i ≤ a0.length ∧ i ≤ 150 ∧ WI i w) (fun s => match s with | .l1 i _ _ _ _ => a0.length - i.toNat) (fun r => r = some true) ?_ _ ⟨0, ⟨qNew, 0, [], 0⟩, rfl, Nat.zero_le _, Nat.zero_le _, ⟨by simp [qNew], ⟨by decide, by decide⟩, by decide, fun x hx => (by cases hx), fun h => absurd h (by decide)⟩⟩
  rintro s ⟨i, w, rfl, hi, h150, h⟩
  have hn := h.n
  simp only [splicelaw06_HoldRises.step, splicelaw06_HoldRises.l1]
  by_cases hlt : i < a0.length
  · rw [if_pos (by omega)]
    by_cases h1 : i < 150
    · left
      rw [decide_eq_true (by omega)]
      have hw : IntKind.wrap .i64 ((i : Int) + 1) = ((i + 1 : Nat) : Int) := wr1 hlt hL
      unfold splicelaw06_HoldRises.j2
      rw [if_pos rfl, if_pos (by omega)]
      simp only [Int.toNat_natCast]
      by_cases h20 : ((a0.getD i splicelaw06_Come.z).M.Pairs.length : Int) ≤ 20
      · rw [if_pos h20]
        have hm1 : Int.tmod (a0.getD i splicelaw06_Come.z).More 16 < 16 := Int.tmod_lt_of_pos _ (by decide)
        have hm2 : -16 < Int.tmod (a0.getD i splicelaw06_Come.z).More 16 := by
          have h3 := Int.tmod_lt_of_pos (-(a0.getD i splicelaw06_Come.z).More) (show (0 : Int) < 16 by decide)
          rw [Int.neg_tmod] at h3
          omega
        rw [wr (by omega)]
        obtain ⟨w', e1, e2⟩ := step_holds h h1 (a0.getD i splicelaw06_Come.z).M (by omega) (Int.tmod (a0.getD i splicelaw06_Come.z).More 16) ⟨hm2, hm1⟩ (a0.getD i splicelaw06_Come.z).Add
        have e3 : splicelaw06_World_step ⟨w.q, w.clock, w.popped, w.floor⟩ (a0.getD i splicelaw06_Come.z).M (Int.tmod (a0.getD i splicelaw06_Come.z).More 16) (a0.getD i splicelaw06_Come.z).Add = some (true, w') := e1
        rw [e3, Option.bind_some]
        simp only [Bool.not_true, splicelaw06_HoldRises.j3, Bool.false_eq_true, if_false, hw]
        exact ⟨_, rfl, .inl ⟨⟨i + 1, w', rfl, by omega, by omega, e2⟩, by simp; omega⟩⟩
      · rw [if_neg h20]
        simp only [splicelaw06_HoldRises.j3, Bool.false_eq_true, if_false, hw]
        exact ⟨_, rfl, .inl ⟨⟨i + 1, w, rfl, by omega, by omega, h.succ⟩, by simp; omega⟩⟩
    · right
      rw [decide_eq_false (by omega)]
      exact ⟨true, rfl, rfl⟩
  · right
    rw [if_neg (by omega)]
    exact ⟨true, rfl, rfl⟩
end Go.SyP
