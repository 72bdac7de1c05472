/- Hold: a head whose time is not final keeps all back. -/
import Derived.Test.YtboaahlhgekbbaaP06V
set_option linter.unusedVariables false
set_option linter.unusedSimpArgs false
namespace Go.SyP
open Go Go.Sy

theorem drop_q {q : QL} {A B : List api_Held} {h : api_Held} (hp : q.l.Perm (A ++ h :: B)) : ∃ q', qDrop q h.M.Client h.M.Seq = (0, q') ∧ q'.l.Perm (A ++ B) ∧ finH h.M.Client h.M.Seq q'.l = none := by
  have hm : h ∈ q.l := hp.mem_iff.2 (by simp)
  have hk : isK h.M.Client h.M.Seq h = true := isK_iff.2 ⟨rfl, rfl⟩
  have e := finH_of q.good.apart hm hk
  unfold qDrop
  rw [e]
  refine ⟨_, rfl, ((delH_perm q.good.apart hm hk).symm.trans (hp.trans List.perm_middle)).cons_inv, ?_⟩
  refine List.find?_eq_none.2 fun x hx hk' => ?_
  have := (List.mem_filter.1 hx).2
  rw [hk'] at this
  cases this
theorem put_q {q : QL} {h : api_Held} (hn : finH h.M.Client h.M.Seq q.l = none) (hp : h.M.Pairs.length ≤ 1000) (hl : q.l.length ≤ 1000) (hm : mOk h.M = true) (ht : timedB h.Time = true) :
    ∃ q', qAdd q h = some (0, q') ∧ q'.l = insH h q.l := by
  rw [qAdd_eq q h hp hl, if_pos ⟨hm, ht⟩]
  unfold qPut
  split
  · rename_i x e
    rw [hn] at e
    cases e
  · rw [dif_pos (show h.M.Pairs.length ≤ 1000000 by omega)]
    exact ⟨_, rfl, rfl⟩

theorem idx_lt (a : Int) {n : Nat} (h0 : 0 < n) (hn : n ≤ 60) : ∃ j : Nat, j < n ∧ Int.tmod (IntKind.wrap .i64 (Int.tmod a (n : Int) + (n : Int))) (n : Int) = (j : Int) := by
  have h1 := Int.tmod_lt_of_pos a (show (0 : Int) < n by omega)
  have h2 : -(n : Int) < Int.tmod a n := by
    have h3 := Int.tmod_lt_of_pos (-a) (show (0 : Int) < n by omega)
    rw [Int.neg_tmod] at h3
    omega
  rw [wr (by omega)]
  have h4 := Int.tmod_nonneg (n : Int) (show 0 ≤ Int.tmod a n + n by omega)
  have h5 := Int.tmod_lt_of_pos (Int.tmod a n + n) (show (0 : Int) < n by omega)
  exact ⟨(Int.tmod (Int.tmod a n + n) n).toNat, by omega, by omega⟩

section
variable (a0 : List api_Held) (a1 : Int) (kept : List api_Held)

theorem blocks_l4 (hk : kept.length ≤ 60) (h0 : 0 < kept.length) : ∀ s, (∃ (m : Nat) (q : QL), s = splicelaw06_HoldBlocks.S.l4 kept m q ∧ m + q.l.length + 1 = kept.length ∧ ∀ x ∈ q.l, x.Final = true) → goLoop (splicelaw06_HoldBlocks.step a0 a1) s = some true := by
  refine loop_run _ (fun s => match s with | .l4 _ _ q => q.l.length | _ => 0) (fun r => r = some true) ?_
  rintro s ⟨m, ⟨L, g⟩, rfl, h1, h2⟩
  simp only [splicelaw06_HoldBlocks.step, splicelaw06_HoldBlocks.l4, bnd, qLen] at h1 h2 ⊢
  cases L with
  | nil =>
    right
    have hw : IntKind.wrap .i64 ((kept.length : Int) - 1) = ((kept.length - 1 : Nat) : Int) := by rw [wr (by omega)]; omega
    simp only [qPop, Bool.false_eq_true, if_false, hw]
    rw [if_pos (by simp at h1; omega)]
    exact ⟨true, rfl, rfl⟩
  | cons x xs =>
    left
    obtain ⟨g', e⟩ := pop_cons (g := g) (h2 x (List.mem_cons_self ..))
    simp only [e, if_true]
    have hw : IntKind.wrap .i64 ((m : Int) + 1) = ((m + 1 : Nat) : Int) := by rw [wr (by simp at h1; omega)]; omega
    rw [hw]
    exact ⟨_, rfl, .inl ⟨⟨m + 1, ⟨xs, g'⟩, rfl, by simp at h1 ⊢; omega, fun y hy => h2 y (List.mem_cons_of_mem _ hy)⟩, by simp⟩⟩

theorem blocks_l3 (hk : kept.length ≤ 60) {j : Nat} (hj : j < kept.length) (hx : Int.tmod (IntKind.wrap .i64 (Int.tmod a1 (kept.length : Int) + (kept.length : Int))) (kept.length : Int) = (j : Int))
    {B : api_Held} (hB : kept.getD j api_Held.z = B) {ah : Nat} {S : List api_Held} : ∀ s, (∃ (m : Nat) (q : QL) (P : List api_Held), s = splicelaw06_HoldBlocks.S.l3 kept ah m q ∧ q.l = P ++ ⟨B.M, B.Time, false⟩ :: S ∧ m + P.length = ah ∧ ah + 1 + S.length = kept.length ∧ (∀ x ∈ P, x.Final = true) ∧ ∀ x ∈ S, x.Final = true) →
    goLoop (splicelaw06_HoldBlocks.step a0 a1) s = some true := by
  refine loop_run _ (fun s => match s with | .l3 _ _ _ q => q.l.length | _ => 0) (fun r => r = some true) ?_
  rintro s ⟨m, ⟨L, g⟩, P, rfl, h1, h2, h3, h4, h5⟩
  left
  simp only at h1
  simp only [splicelaw06_HoldBlocks.step, splicelaw06_HoldBlocks.l3, bnd, hx, Int.toNat_natCast, hB]
  cases P with
  | nil =>
    rw [List.nil_append] at h1
    subst h1
    simp only [List.length_nil, Nat.add_zero] at h2
    subst h2
    rw [pop_stop (g := g) rfl]
    simp only [Bool.false_eq_true, if_false, if_true]
    obtain ⟨q', e1, e2, e3⟩ := drop_q (q := ⟨⟨B.M, B.Time, false⟩ :: S, g⟩) (A := []) (B := S) (h := ⟨B.M, B.Time, false⟩) (.refl _)
    simp only at e1
    simp only [qFloor, if_true, e1, show ((0 : Int) != 0) = false by decide, splicelaw06_HoldBlocks.j7, Bool.false_eq_true, if_false]
    refine ⟨_, rfl, .inr (blocks_l4 a0 a1 kept hk (by omega) _ ⟨m, q', rfl, ?_, fun x hx => h5 x (e2.mem_iff.1 hx)⟩)⟩
    have := e2.length_eq
    simp at this
    omega
  | cons x xs =>
    rw [List.cons_append] at h1
    subst h1
    obtain ⟨g', e⟩ := pop_cons (g := g) (h4 x (List.mem_cons_self ..))
    simp only [e, if_true]
    have hw : IntKind.wrap .i64 ((m : Int) + 1) = ((m + 1 : Nat) : Int) := by rw [wr (by simp at h2; omega)]; omega
    rw [hw]
    exact ⟨_, rfl, .inl ⟨⟨m + 1, ⟨_, g'⟩, xs, rfl, rfl, by simp at h2 ⊢; omega, h3, fun y hy => h4 y (List.mem_cons_of_mem _ hy), h5⟩, by simp⟩⟩

theorem blocks_l2 (hk : kept.length ≤ 60) {j : Nat} (hj : j < kept.length) (hx : Int.tmod (IntKind.wrap .i64 (Int.tmod a1 (kept.length : Int) + (kept.length : Int))) (kept.length : Int) = (j : Int))
    {B : api_Held} (hB : kept.getD j api_Held.z = B) (hf : ∀ x ∈ kept, x.Final = true) {q : QL} (hq : q.l.Perm (⟨B.M, B.Time, false⟩ :: (kept.take j ++ kept.drop (j + 1)))) :
    ∀ s, (∃ (i : Nat), s = splicelaw06_HoldBlocks.S.l2 kept q ((kept.take i).countP fun h => decide (ltH h B) : Nat) i ∧ i ≤ kept.length) → goLoop (splicelaw06_HoldBlocks.step a0 a1) s = some true := by
  refine loop_run _ (fun s => match s with | .l2 kept _ _ i => kept.length - i.toNat | _ => 0) (fun r => r = some true) ?_
  rintro s ⟨i, rfl, hi⟩
  left
  simp only [splicelaw06_HoldBlocks.step, splicelaw06_HoldBlocks.l2, hx, Int.toNat_natCast, hB]
  by_cases hlt : i < kept.length
  · rw [if_pos (by omega), if_pos (by omega), mut_Compare_eq, Option.bind_some]
    have hc := cmpS_lt (mut_Stamp (kept.getD i api_Held.z).Time (kept.getD i api_Held.z).M) (mut_Stamp B.Time B.M)
    have hw : IntKind.wrap .i64 ((i : Int) + 1) = ((i + 1 : Nat) : Int) := by rw [wr (by omega)]; omega
    have hcl : ((kept.take i).countP fun h => decide (ltH h B)) ≤ i := Nat.le_trans List.countP_le_length (by rw [List.length_take]; omega)
    have hcn : (kept.take (i + 1)).countP (fun h => decide (ltH h B)) = (kept.take i).countP (fun h => decide (ltH h B)) + (if ltH (kept.getD i api_Held.z) B then 1 else 0) := by
      rw [take_atH hlt, List.countP_append]
      simp [List.countP_cons]
    by_cases hl : ltH (kept.getD i api_Held.z) B
    · rw [if_pos (hc.2 hl)]
      rw [if_pos hl] at hcn
      simp only [splicelaw06_HoldBlocks.j6, hw]
      refine ⟨_, rfl, .inl ⟨⟨i + 1, ?_, by omega⟩, by simp; omega⟩⟩
      rw [hcn, wr (by omega)]
      rfl
    · rw [if_neg (fun h => hl (hc.1 h))]
      rw [if_neg hl, Nat.add_zero] at hcn
      simp only [splicelaw06_HoldBlocks.j6, hw]
      refine ⟨_, rfl, .inl ⟨⟨i + 1, ?_, by omega⟩, by simp; omega⟩⟩
      rw [hcn]
      rfl
  · rw [if_neg (by omega)]
    have hil : i = kept.length := by omega
    subst hil
    rw [List.take_length]
    -- where b stands
    have hb : (⟨B.M, B.Time, false⟩ : api_Held) ∈ q.l := hq.mem_iff.2 (List.mem_cons_self ..)
    obtain ⟨P, S, hPS⟩ := List.append_of_mem hb
    have hup := q.good.up
    rw [hPS] at hup
    have hP : ∀ x ∈ P, ltH x B := fun x hx => show ltH x ⟨B.M, B.Time, false⟩ from (List.pairwise_append.1 hup).2.2 x hx ⟨B.M, B.Time, false⟩ (List.mem_cons_self ..)
    have hS : ∀ x ∈ S, ¬ ltH x B := fun x hx => ltH_asymm ((List.pairwise_cons.1 (List.pairwise_append.1 hup).2.1).1 x hx)
    have hrest : (P ++ S).Perm (kept.take j ++ kept.drop (j + 1)) := by
      have := hq
      rw [hPS] at this
      exact (List.perm_middle.symm.trans this).cons_inv
    have hkj : kept = kept.take j ++ B :: kept.drop (j + 1) := by
      rw [← hB, ← drop_at hj, List.take_append_drop]
    have hcount : (kept.countP fun h => decide (ltH h B)) = P.length := by
      have e1 : (kept.countP fun h => decide (ltH h B)) = (kept.take j ++ kept.drop (j + 1)).countP fun h => decide (ltH h B) := by
        conv => lhs; rw [hkj]
        rw [List.countP_append, List.countP_append, List.countP_cons, if_neg (by simpa using ltH_irrefl B), Nat.add_zero]
      rw [e1, ← hrest.countP_eq, List.countP_append, List.countP_eq_length.2 fun x hx => by simpa using hP x hx, List.countP_eq_zero.2 fun x hx => by simpa using hS x hx, Nat.add_zero]
    have hlen : P.length + 1 + S.length = kept.length := by
      have := hrest.length_eq
      simp at this
      omega
    have hfin : ∀ x ∈ P ++ S, x.Final = true := fun x hx => hf x (by
      have := hrest.mem_iff.1 hx
      rw [hkj]
      rcases List.mem_append.1 this with h | h
      · exact List.mem_append.2 (.inl h)
      · exact List.mem_append.2 (.inr (List.mem_cons_of_mem _ h)))
    refine ⟨_, rfl, .inr (blocks_l3 a0 a1 kept hk hj hx hB (ah := kept.countP fun h => decide (ltH h B)) (S := S) _ ⟨0, q, P, rfl, hPS, by rw [hcount, Nat.zero_add], by rw [hcount]; exact hlen, fun x hx => hfin x (List.mem_append.2 (.inl hx)), fun x hx => hfin x (List.mem_append.2 (.inr hx))⟩)⟩
end

theorem splicelaw06_HoldBlocks_true (a0 : List api_Held) (a1 : Int) {p p1 : Prop} (w0 : a0.length ≤ maxLen ∧ p) (w1 : p1) : splicelaw06_HoldBlocks a0 a1 = some true := by
  have hL : a0.length ≤ 9223372036854775807 := Nat.le_trans w0.1 (by decide)
  unfold splicelaw06_HoldBlocks
  simp only [bnd]
  rw [awake_eq, Option.bind_some, if_pos rfl]
  unfold splicelaw06_HoldBlocks.j1
  rw [if_neg (by decide)]
  refine loop_run (fun s => ∃ (i : Nat) (q : QL) (kept : List api_Held), s = splicelaw06_HoldBlocks.S.l1 i q kept ∧ i ≤ a0.length ∧ Kept q kept ∧ ∀ x ∈ kept, x.Final = true) (fun s => match s with | .l1 i _ _ => a0.length - i.toNat | _ => 0) (fun r => r = some true) ?_ _ ⟨0, qNew, [], rfl, Nat.zero_le _, .nil, fun _ h => (by cases h)⟩
  rintro s ⟨i, q, kept, rfl, hi, k, hf⟩
  have hklen := k.len
  have hlenq := k.perm.length_eq
  have stop : (∃ s', splicelaw06_HoldBlocks.j2 a0 a1 i q kept false = some (.inl s') ∧ goLoop (splicelaw06_HoldBlocks.step a0 a1) s' = some true) ∨ ∃ r, splicelaw06_HoldBlocks.j2 a0 a1 i q kept false = some (.inr r) ∧ some r = some true := by
    unfold splicelaw06_HoldBlocks.j2
    rw [if_neg (by decide)]
    by_cases h0 : (kept.length : Int) = 0
    · right
      rw [if_pos h0]
      refine ⟨_, rfl, ?_⟩
      have : q.l.length = 0 := by omega
      simp [qLen, this]
    · left
      rw [if_neg h0, if_pos h0]
      obtain ⟨j, hj, hx⟩ := idx_lt a1 (n := kept.length) (by omega) hklen
      simp only [hx, Int.toNat_natCast, bnd]
      rw [if_pos (by omega)]
      have hkj : kept = kept.take j ++ kept.getD j api_Held.z :: kept.drop (j + 1) := by
        rw [← drop_at hj, List.take_append_drop]
      have hmem := getD_memH hj
      generalize hB : kept.getD j api_Held.z = B at hkj hmem ⊢
      obtain ⟨q1, e1, e2, e3⟩ := drop_q (q := q) (A := kept.take j) (B := kept.drop (j + 1)) (h := B) (by rw [← hkj]; exact k.perm)
      rw [e1, if_pos rfl]
      have hl1 := e2.length_eq
      have hok := k.ok B hmem
      obtain ⟨q2, f1, f2⟩ := put_q (q := q1) (h := ⟨B.M, B.Time, false⟩) e3 (by simp only; omega) (by simp at hl1; omega) hok.1 hok.2.1
      simp only
      rw [f1, Option.bind_some]
      simp only [show ((0 : Int) != 0) = false by decide, splicelaw06_HoldBlocks.j3, Bool.false_eq_true, if_false]
      refine ⟨_, rfl, blocks_l2 a0 a1 kept hklen hj hx hB hf (q := q2) ?_ _ ⟨0, rfl, Nat.zero_le _⟩⟩
      rw [f2]
      exact (insH_perm _ _).trans (e2.cons _)
  simp only [splicelaw06_HoldBlocks.step, splicelaw06_HoldBlocks.l1]
  by_cases hlt : i < a0.length
  · rw [if_pos (by omega)]
    by_cases h60 : kept.length < 60
    · left
      rw [decide_eq_true (by omega)]
      have hw : IntKind.wrap .i64 ((i : Int) + 1) = ((i + 1 : Nat) : Int) := wr1 hlt hL
      unfold splicelaw06_HoldBlocks.j2
      rw [if_pos rfl, if_pos (by omega)]
      simp only [Int.toNat_natCast]
      have skip : ∃ s', splicelaw06_HoldBlocks.j4 a0 i kept false q = some (.inl s') ∧ ((∃ (i : Nat) (q : QL) (kept : List api_Held), s' = splicelaw06_HoldBlocks.S.l1 i q kept ∧ i ≤ a0.length ∧ Kept q kept ∧ ∀ x ∈ kept, x.Final = true) ∧ (match s' with | .l1 i _ _ => a0.length - i.toNat | _ => 0) < a0.length - i) := by
        refine ⟨.l1 ((i + 1 : Nat) : Int) q kept, ?_, ⟨i + 1, q, kept, rfl, by omega, k, hf⟩, by simp; omega⟩
        simp only [splicelaw06_HoldBlocks.j4, Bool.false_eq_true, if_false, splicelaw06_HoldBlocks.j5, hw]
      by_cases h20 : ((a0.getD i api_Held.z).M.Pairs.length : Int) ≤ 20
      · rw [if_pos h20]
        obtain ⟨e, q', e1, e2⟩ := add_step k h60 ⟨(a0.getD i api_Held.z).M, (a0.getD i api_Held.z).Time, true⟩ (by simp only; omega)
        rw [e1, Option.bind_some]
        rcases e2 with ⟨rfl, k', _⟩ | ⟨hne, rfl⟩
        · simp only [show ((0 : Int) == 0) = true by decide]
          unfold splicelaw06_HoldBlocks.j4
          rw [if_pos rfl, if_pos (by omega)]
          simp only [Int.toNat_natCast, splicelaw06_HoldBlocks.j5, hw]
          refine ⟨_, rfl, .inl ⟨⟨i + 1, q', _, rfl, by omega, k', fun x hx => ?_⟩, by simp; omega⟩⟩
          rcases List.mem_append.1 hx with hx | hx
          · exact hf x hx
          · rw [List.mem_singleton.1 hx]
        · simp only [beq_eq_false_iff_ne.2 hne]
          obtain ⟨s', s1, s2⟩ := skip
          exact ⟨s', s1, .inl s2⟩
      · rw [if_neg h20]
        obtain ⟨s', s1, s2⟩ := skip
        exact ⟨s', s1, .inl s2⟩
    · rw [decide_eq_false (by omega)]
      rcases stop with ⟨s', s1, s2⟩ | ⟨r, s1, s2⟩
      · exact .inl ⟨s', s1, .inr s2⟩
      · exact .inr ⟨r, s1, s2⟩
  · rw [if_neg (by omega)]
    rcases stop with ⟨s', s1, s2⟩ | ⟨r, s1, s2⟩
    · exact .inl ⟨s', s1, .inr s2⟩
    · exact .inr ⟨r, s1, s2⟩
end Go.SyP
