/- Hold: the queue as a list by rising stamps. -/
import Derived.Test.YtboaahlhgekbbaaP06H
set_option linter.unusedVariables false
set_option linter.unusedSimpArgs false
namespace Go.SyP
open Go Go.Sy

def isK (c s : Int) (h : api_Held) : Bool := h.M.Client == c && h.M.Seq == s
theorem isK_iff {c s : Int} {h : api_Held} : isK c s h = true ↔ h.M.Client = c ∧ h.M.Seq = s := by simp [isK]
def apartK (a b : api_Held) : Prop := ¬ (a.M.Client = b.M.Client ∧ a.M.Seq = b.M.Seq)
theorem apartK.symm {a b : api_Held} (h : apartK a b) : apartK b a := fun k => h ⟨k.1.symm, k.2.symm⟩
def ltH (a b : api_Held) : Prop := ltS (stampH a) (stampH b)
instance (a b : api_Held) : Decidable (ltH a b) := by unfold ltH; infer_instance
theorem ltH_total {a b : api_Held} (h : apartK a b) : ltH a b ∨ ltH b a := by
  unfold ltH ltS stampH apartK at *
  simp only
  omega
theorem ltH_irrefl (a : api_Held) : ¬ ltH a a := by unfold ltH ltS; omega
theorem ltH_asymm {a b : api_Held} (h : ltH a b) : ¬ ltH b a := by unfold ltH ltS at *; omega
theorem ltH_trans {a b c : api_Held} (h : ltH a b) (k : ltH b c) : ltH a c := by unfold ltH ltS at *; omega

structure Good (L : List api_Held) : Prop where
  up : L.Pairwise ltH
  apart : L.Pairwise apartK
  small : ∀ h ∈ L, h.M.Pairs.length ≤ 1000000
structure QL where
  l : List api_Held
  good : Good l

theorem uniq {L : List api_Held} (hp : L.Pairwise apartK) {a b : api_Held} (ha : a ∈ L) (hb : b ∈ L) (h : a.M.Client = b.M.Client ∧ a.M.Seq = b.M.Seq) : a = b := by
  induction L with
  | nil => cases ha
  | cons x xs ih =>
    rw [List.pairwise_cons] at hp
    rcases List.mem_cons.1 ha with e1 | k1 <;> rcases List.mem_cons.1 hb with e2 | k2
    · rw [e1, e2]
    · subst e1; exact absurd h (hp.1 b k2)
    · subst e2; exact absurd ⟨h.1.symm, h.2.symm⟩ (hp.1 a k1)
    · exact ih hp.2 k1 k2

/-! ### Putting in, taking out -/
def insH (x : api_Held) : List api_Held → List api_Held
  | [] => [x]
  | y :: ys => if ltH x y then x :: y :: ys else y :: insH x ys
theorem insH_perm (x : api_Held) : ∀ L, (insH x L).Perm (x :: L)
  | [] => .refl _
  | y :: ys => by
    unfold insH
    split
    · exact .refl _
    · exact ((insH_perm x ys).cons y).trans (.swap x y ys)
theorem insH_up {x : api_Held} : ∀ {L : List api_Held}, L.Pairwise ltH → (∀ y ∈ L, apartK x y) → (insH x L).Pairwise ltH
  | [], _, _ => by simp [insH]
  | y :: ys, h, ha => by
    rw [List.pairwise_cons] at h
    unfold insH
    split
    · rename_i hl
      refine List.pairwise_cons.2 ⟨fun z hz => ?_, List.pairwise_cons.2 h⟩
      rcases List.mem_cons.1 hz with rfl | hz
      · exact hl
      · exact ltH_trans hl (h.1 z hz)
    · rename_i hl
      have hyx : ltH y x := (ltH_total (ha y (List.mem_cons_self ..))).resolve_left hl
      refine List.pairwise_cons.2 ⟨fun z hz => ?_, insH_up h.2 fun z hz => ha z (List.mem_cons_of_mem _ hz)⟩
      rcases List.mem_cons.1 ((insH_perm x ys).mem_iff.1 hz) with rfl | hz
      · exact hyx
      · exact h.1 z hz
theorem insH_good {x : api_Held} {L : List api_Held} (h : Good L) (ha : ∀ y ∈ L, apartK x y) (hx : x.M.Pairs.length ≤ 1000000) : Good (insH x L) := by
  have p := insH_perm x L
  refine ⟨insH_up h.up ha, (p.pairwise_iff fun h => h.symm).2 (List.pairwise_cons.2 ⟨ha, h.apart⟩), fun y hy => ?_⟩
  rcases List.mem_cons.1 (p.mem_iff.1 hy) with rfl | hy
  · exact hx
  · exact h.small y hy

def delH (c s : Int) (L : List api_Held) : List api_Held := L.filter fun h => !isK c s h
theorem delH_good {c s : Int} {L : List api_Held} (h : Good L) : Good (delH c s L) :=
  ⟨h.up.filter _, h.apart.filter _, fun y hy => h.small y (List.mem_filter.1 hy).1⟩
theorem delH_apart {c s : Int} {L : List api_Held} {x : api_Held} (hx : isK c s x = true) : ∀ y ∈ delH c s L, apartK x y := by
  intro y hy
  have := (List.mem_filter.1 hy).2
  intro k
  rw [isK_iff] at hx
  have : isK c s y = true := isK_iff.2 ⟨k.1.symm.trans hx.1, k.2.symm.trans hx.2⟩
  simp [this] at *
theorem delH_perm {c s : Int} {L : List api_Held} (h : L.Pairwise apartK) {x : api_Held} (hx : x ∈ L) (hk : isK c s x = true) : L.Perm (x :: delH c s L) := by
  induction L with
  | nil => cases hx
  | cons y ys ih =>
    rw [List.pairwise_cons] at h
    by_cases e : isK c s y = true
    · have hxy : x = y := by
        rcases List.mem_cons.1 hx with rfl | hx
        · rfl
        · rw [isK_iff] at e hk
          exact absurd ⟨e.1.trans hk.1.symm, e.2.trans hk.2.symm⟩ (h.1 x hx)
      subst hxy
      have : delH c s (x :: ys) = ys := by
        simp only [delH, List.filter_cons, hk, Bool.not_true, Bool.false_eq_true, if_false]
        rw [List.filter_eq_self]
        intro z hz
        cases hb : isK c s z with
        | false => rfl
        | true =>
          rw [isK_iff] at hb hk
          exact absurd ⟨hk.1.trans hb.1.symm, hk.2.trans hb.2.symm⟩ (h.1 z hz)
      rw [this]
    · have hxs : x ∈ ys := by
        rcases List.mem_cons.1 hx with rfl | hx
        · exact absurd hk e
        · exact hx
      have : delH c s (y :: ys) = y :: delH c s ys := by
        simp only [delH, List.filter_cons]
        simp only [Bool.not_eq_true] at e
        simp [e]
      rw [this]
      exact ((ih h.2 hxs).cons y).trans (.swap x y _)

def finH (c s : Int) (L : List api_Held) : Option api_Held := L.find? (isK c s)
theorem finH_mem {c s : Int} {L : List api_Held} {x : api_Held} (h : finH c s L = some x) : x ∈ L ∧ isK c s x = true := ⟨List.mem_of_find?_eq_some h, List.find?_some h⟩
theorem finH_of {c s : Int} {L : List api_Held} (hp : L.Pairwise apartK) {x : api_Held} (hx : x ∈ L) (hk : isK c s x = true) : finH c s L = some x := by
  cases e : finH c s L with
  | none =>
    have := List.find?_eq_none.1 e x hx
    exact absurd hk this
  | some y =>
    obtain ⟨h1, h2⟩ := finH_mem e
    rw [isK_iff] at h2 hk
    rw [uniq hp h1 hx ⟨h2.1.trans hk.1.symm, h2.2.trans hk.2.symm⟩]

/-! ### What the functions of a queue make of the list -/
def timedB (t : Int) : Bool := decide (t ≥ 0) && decide (t ≤ 1099511627775)
theorem timed_eq (t : Int) : hold_timed t = timedB t := by
  unfold hold_timed timedB hold_timed.j1
  by_cases h : t ≥ 0 <;> simp [h]
def zeroH : api_Held := ⟨⟨0, 0, 0, [], ⟨0, 0⟩, 0⟩, 0, false⟩

def qFind (q : QL) (c s : Int) : api_Held × Bool :=
  match finH c s q.l with
  | some x => (x, true)
  | none => (zeroH, false)
def qDrop (q : QL) (c s : Int) : Int × QL :=
  match finH c s q.l with
  | some _ => (0, ⟨delH c s q.l, delH_good q.good⟩)
  | none => (4, q)
def qPop (q : QL) : api_Held × Bool × QL :=
  match q with
  | ⟨[], h⟩ => (zeroH, false, ⟨[], h⟩)
  | ⟨x :: xs, h⟩ => if x.Final then (x, true, ⟨xs, ⟨(List.pairwise_cons.1 h.up).2, (List.pairwise_cons.1 h.apart).2, fun y hy => h.small y (List.mem_cons_of_mem _ hy)⟩⟩) else (zeroH, false, ⟨x :: xs, h⟩)
def toFinal (x : api_Held) (t : Int) : api_Held := ⟨x.M, t, true⟩
theorem fin_good {c s t : Int} {L : List api_Held} (h : Good L) {x : api_Held} (e : finH c s L = some x) : Good (insH (toFinal x t) (delH c s L)) :=
  insH_good (delH_good h) (delH_apart (x := toFinal x t) (finH_mem e).2) (h.small x (finH_mem e).1)
def qFinal (q : QL) (c s t : Int) : Int × QL :=
  match e : finH c s q.l with
  | some x => if x.Final then (7, q) else if t < x.Time ∨ timedB t = false then (1, q) else (0, ⟨insH (toFinal x t) (delH c s q.l), fin_good q.good e⟩)
  | none => (4, q)
theorem add_good {h : api_Held} {L : List api_Held} (g : Good L) (e : finH h.M.Client h.M.Seq L = none) (hp : h.M.Pairs.length ≤ 1000000) : Good (insH h L) :=
  insH_good g (fun y hy k => by
    have := List.find?_eq_none.1 e y hy
    exact this (isK_iff.2 ⟨k.1.symm, k.2.symm⟩)) hp
/-- Adding what has passed the check. -/
def qPut (q : QL) (h : api_Held) : Int × QL :=
  match e : finH h.M.Client h.M.Seq q.l with
  | some _ => (7, q)
  | none => if hp : h.M.Pairs.length ≤ 1000000 then (0, ⟨insH h q.l, add_good q.good e hp⟩) else (0, q)
def qFloor (q : QL) (clock : Int) : Int :=
  match q.l with
  | [] => clock
  | x :: _ => IntKind.wrap .i64 (x.Time - 1)
end Go.SyP
