/- Hold: once all times are final all is popped. -/
import Derived.Test.YtboaahlhgekbbaaP06V
set_option linter.unusedVariables false
set_option linter.unusedSimpArgs false
namespace Go.SyP
open Go Go.Sy

theorem all_pop (a0 kept : List api_Held) (hk : kept.length ≤ 60) : ∀ s, (∃ (n : Nat) (q : QL) (b0 b1 b2 : Int), s = splicelaw06_HoldAll.S.l3 n q kept b0 b1 b2 ∧ n + q.l.length = kept.length ∧ (∀ x ∈ q.l, x.Final = true) ∧ ∀ x ∈ q.l, ltS ⟨b0, b1, b2⟩ (stampH x)) →
    goLoop (splicelaw06_HoldAll.step a0) s = some true := by
  refine loop_run _ (fun s => match s with | .l3 _ q _ _ _ _ => q.l.length | _ => 0) (fun r => r = some true) ?_
  rintro s ⟨n, ⟨L, g⟩, b0, b1, b2, rfl, h1, h2, h3⟩
  simp only [splicelaw06_HoldAll.step, splicelaw06_HoldAll.l3, bnd, qLen] at h1 h2 h3 ⊢
  cases L with
  | nil =>
    right
    rw [if_neg (by simp), if_pos (by simp at h1; omega)]
    exact ⟨true, rfl, rfl⟩
  | cons x xs =>
    left
    obtain ⟨g', e⟩ := pop_cons (g := g) (h2 x (List.mem_cons_self ..))
    rw [if_pos (by simp)]
    simp only [e, if_true]
    rw [mut_Compare_eq, Option.bind_some]
    have hlt := h3 x (List.mem_cons_self ..)
    have hc := (cmpS_lt _ _).2 hlt
    have hs : mut_Stamp x.Time x.M = stampH x := rfl
    have hd : decide (cmpS ⟨b0, b1, b2⟩ (mut_Stamp x.Time x.M) ≥ 0) = false := decide_eq_false (by rw [hs]; omega)
    rw [hd]
    simp only [splicelaw06_HoldAll.j7, Bool.false_eq_true, if_false]
    refine ⟨_, rfl, .inl ⟨⟨n + 1, ⟨xs, g'⟩, (stampH x).Time, (stampH x).Client, (stampH x).Seq, ?_, ?_, fun y hy => h2 y (List.mem_cons_of_mem _ hy), fun y hy => ?_⟩, by simp⟩⟩
    · rw [wr (by simp at h1; omega)]
      rfl
    · simp at h1 ⊢; omega
    · exact (List.pairwise_cons.1 g.up).1 y hy

theorem all_final (a0 kept : List api_Held) (hk : kept.length ≤ 60) (hok : ∀ h ∈ kept, timedB h.Time = true) : ∀ s, (∃ (i : Nat) (q : QL), s = splicelaw06_HoldAll.S.l2 kept i q ∧ i ≤ kept.length ∧ q.l.Perm ((kept.take i).map fin1 ++ kept.drop i)) →
    goLoop (splicelaw06_HoldAll.step a0) s = some true := by
  refine loop_run _ (fun s => match s with | .l2 kept i _ => kept.length - i.toNat | _ => 0) (fun r => r = some true) ?_
  rintro s ⟨i, q, rfl, hi, hp⟩
  left
  simp only [splicelaw06_HoldAll.step, splicelaw06_HoldAll.l2, Int.toNat_natCast, bnd]
  by_cases hlt : i < kept.length
  · rw [if_pos (by omega), if_pos (by omega)]
    have hmem := getD_memH hlt
    generalize hh : kept.getD i api_Held.z = h at hmem ⊢
    have hd := drop_at hlt
    rw [hh] at hd
    have ht := take_atH hlt
    rw [hh] at ht
    have hw : IntKind.wrap .i64 ((i : Int) + 1) = ((i + 1 : Nat) : Int) := by rw [wr (by omega)]; omega
    have hp' : q.l.Perm ((kept.take i).map fin1 ++ h :: kept.drop (i + 1)) := by rw [← hd]; exact hp
    rcases final_step hp' (hok h hmem) with ⟨hf, e⟩ | ⟨hf, q', e, hq'⟩
    · rw [e, if_pos hf]
      simp only [if_true, splicelaw06_HoldAll.j5, Bool.false_eq_true, if_false, hw]
      refine ⟨_, rfl, .inl ⟨⟨i + 1, q, rfl, by omega, ?_⟩, by simp; omega⟩⟩
      rw [ht, List.map_append, List.map_singleton, show fin1 h = h by cases h; simp only at hf; subst hf; rfl, List.append_assoc]
      exact hp'
    · rw [e, if_neg (by simp [hf])]
      simp only [show ¬ ((0 : Int) = 7) by decide, if_false, show ((0 : Int) != 0) = false by decide, splicelaw06_HoldAll.j5, Bool.false_eq_true, hw]
      refine ⟨_, rfl, .inl ⟨⟨i + 1, q', rfl, by omega, ?_⟩, by simp; omega⟩⟩
      rw [ht, List.map_append, List.map_singleton, List.append_assoc]
      exact hq'
  · rw [if_neg (by omega)]
    have hil : i = kept.length := by omega
    subst hil
    rw [List.take_length, List.drop_length, List.append_nil] at hp
    refine ⟨_, rfl, .inr (all_pop a0 kept hk _ ⟨0, q, -1, 0, 0, rfl, ?_, fun x hx => ?_, fun x hx => ?_⟩)⟩
    · have := hp.length_eq
      simp at this ⊢; omega
    · obtain ⟨y, _, rfl⟩ := List.mem_map.1 (hp.mem_iff.1 hx)
      rfl
    · obtain ⟨y, hy, rfl⟩ := List.mem_map.1 (hp.mem_iff.1 hx)
      have := hok y hy
      simp only [timedB, Bool.and_eq_true, decide_eq_true_eq] at this
      left
      show (-1 : Int) < y.Time
      omega

theorem splicelaw06_HoldAll_true (a0 : List api_Held) {p : Prop} (w0 : a0.length ≤ maxLen ∧ p) : splicelaw06_HoldAll a0 = some true := by
  have hL : a0.length ≤ 9223372036854775807 := Nat.le_trans w0.1 (by decide)
  unfold splicelaw06_HoldAll
  simp only [bnd]
  rw [awake_eq, Option.bind_some, if_pos rfl]
  unfold splicelaw06_HoldAll.j1
  rw [if_neg (by decide)]
  refine loop_run (fun s => ∃ (i : Nat) (q : QL) (kept : List api_Held), s = splicelaw06_HoldAll.S.l1 i q kept ∧ i ≤ a0.length ∧ Kept q kept) (fun s => match s with | .l1 i _ _ => a0.length - i.toNat | _ => 0) (fun r => r = some true) ?_ _ ⟨0, qNew, [], rfl, Nat.zero_le _, .nil⟩
  rintro s ⟨i, q, kept, rfl, hi, k⟩
  left
  have hklen := k.len
  have stop : ∃ s', splicelaw06_HoldAll.j2 a0 i q kept false = some (.inl s') ∧ goLoop (splicelaw06_HoldAll.step a0) s' = some true := by
    refine ⟨.l2 kept 0 q, rfl, all_final a0 kept k.len (fun h hh => (k.ok h hh).2.1) _ ⟨0, q, rfl, Nat.zero_le _, ?_⟩⟩
    simpa using k.perm
  simp only [splicelaw06_HoldAll.step, splicelaw06_HoldAll.l1]
  by_cases hlt : i < a0.length
  · rw [if_pos (by omega)]
    by_cases h60 : kept.length < 60
    · rw [decide_eq_true (by omega)]
      have hw : IntKind.wrap .i64 ((i : Int) + 1) = ((i + 1 : Nat) : Int) := wr1 hlt hL
      unfold splicelaw06_HoldAll.j2
      rw [if_pos rfl, if_pos (by omega)]
      simp only [Int.toNat_natCast]
      have skip : ∃ s', splicelaw06_HoldAll.j3 a0 i kept false q = some (.inl s') ∧ ((∃ (i : Nat) (q : QL) (kept : List api_Held), s' = splicelaw06_HoldAll.S.l1 i q kept ∧ i ≤ a0.length ∧ Kept q kept) ∧ (match s' with | .l1 i _ _ => a0.length - i.toNat | _ => 0) < a0.length - i) := by
        refine ⟨.l1 ((i + 1 : Nat) : Int) q kept, ?_, ⟨i + 1, q, kept, rfl, by omega, k⟩, by simp; omega⟩
        simp only [splicelaw06_HoldAll.j3, Bool.false_eq_true, if_false, splicelaw06_HoldAll.j4, hw]
      by_cases h20 : ((a0.getD i api_Held.z).M.Pairs.length : Int) ≤ 20
      · rw [if_pos h20]
        obtain ⟨e, q', e1, e2⟩ := add_step k h60 (a0.getD i api_Held.z) (by omega)
        rw [e1, Option.bind_some]
        rcases e2 with ⟨rfl, k', _⟩ | ⟨hne, rfl⟩
        · simp only [show ((0 : Int) == 0) = true by decide]
          unfold splicelaw06_HoldAll.j3
          rw [if_pos rfl, if_pos (by omega)]
          simp only [Int.toNat_natCast, splicelaw06_HoldAll.j4, hw]
          exact ⟨_, rfl, .inl ⟨⟨i + 1, q', _, rfl, by omega, k'⟩, by simp; omega⟩⟩
        · simp only [beq_eq_false_iff_ne.2 hne]
          obtain ⟨s', s1, s2⟩ := skip
          exact ⟨s', s1, .inl s2⟩
      · rw [if_neg h20]
        obtain ⟨s', s1, s2⟩ := skip
        exact ⟨s', s1, .inl s2⟩
    · rw [decide_eq_false (by omega)]
      obtain ⟨s', s1, s2⟩ := stop
      exact ⟨s', s1, .inr s2⟩
  · rw [if_neg (by omega)]
    obtain ⟨s', s1, s2⟩ := stop
    exact ⟨s', s1, .inr s2⟩
end Go.SyP
