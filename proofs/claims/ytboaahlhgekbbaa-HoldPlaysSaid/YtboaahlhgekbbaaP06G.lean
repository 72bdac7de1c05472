/- Hold: the order of coming does not matter; a queue is what the document says. -/
import Derived.Test.YtboaahlhgekbbaaP06F
set_option linter.unusedVariables false
set_option linter.unusedSimpArgs false
namespace Go.SyP
open Go Go.Sy

theorem ql_ext {a b : QL} (h : a.l = b.l) : a = b := by
  cases a; cases b
  simp only at h
  subst h
  rfl
theorem qAll_eq (q : QL) (h : q.l.length ≤ 1000) : qAll q = some q.l := if_pos (by omega)
theorem put_q' {q : QL} {h : api_Held} (hn : finH h.M.Client h.M.Seq q.l = none) (hp : h.M.Pairs.length ≤ 1000) (hl : q.l.length ≤ 1000) (hm : mOk h.M = true) (ht : timedB h.Time = true) :
    ∃ q', qAdd q h = some (0, q') ∧ q'.l = insH h q.l := by
  rw [qAdd_eq q h hp hl, if_pos ⟨hm, ht⟩]
  unfold qPut
  split
  · rename_i x e
    rw [hn] at e
    cases e
  · rw [dif_pos (show h.M.Pairs.length ≤ 1000000 by omega)]
    exact ⟨_, rfl, rfl⟩
theorem sorted_unique' : ∀ {A B : List api_Held}, A.Pairwise ltH → B.Pairwise ltH → A.Perm B → A = B := fun h1 h2 h3 => sorted_unique h1 h2 h3

theorem order_l2 (a0 kept : List api_Held) (v2 qa : QL) (k : Kept qa kept) : ∀ s, (∃ (m : Nat) (qb : QL), s = splicelaw06_HoldOrder.S.l2 qa kept ((m : Int) - 1) qb ∧ m ≤ kept.length ∧ qb.l.Perm (kept.drop m)) →
    goLoop (splicelaw06_HoldOrder.step a0 v2) s = some true := by
  have hk := k.len
  refine loop_run _ (fun s => match s with | .l2 _ _ j _ => (j + 1).toNat | _ => 0) (fun r => r = some true) ?_
  rintro s ⟨m, qb, rfl, hm, hp⟩
  simp only [splicelaw06_HoldOrder.step, splicelaw06_HoldOrder.l2]
  have hlen := hp.length_eq
  rw [List.length_drop] at hlen
  by_cases h0 : m = 0
  · subst h0
    right
    rw [List.drop_zero] at hp
    have heq : qa = qb := ql_ext (sorted_unique qa.good.up qb.good.up (k.perm.trans hp.symm))
    subst heq
    have hql := k.perm.length_eq
    have hsm : ∀ h ∈ qa.l, h.M.Pairs.length ≤ 5000 := fun h hh => by have := (k.ok h (k.perm.mem_iff.1 hh)).2.2; omega
    rw [if_neg (by omega), qAll_eq qa (by omega), Option.bind_some, Refs_eq qa.l (by omega) hsm, Option.bind_some, Option.bind_some, Refs_eq qa.l (by omega) hsm, Option.bind_some, Same_refl qa.l (by omega) hsm, Option.bind_some, if_pos rfl]
    refine ⟨true, ?_, rfl⟩
    simp [splicelaw06_HoldOrder.j5]
  · left
    have hlt : m - 1 < kept.length := by omega
    have ei : ((m : Int) - 1) = ((m - 1 : Nat) : Int) := by omega
    rw [if_pos (by omega), if_pos (by omega), ei, Int.toNat_natCast]
    have hd := drop_at hlt
    rw [show m - 1 + 1 = m by omega] at hd
    have hmem := getD_memH hlt
    have hap := k.apart
    rw [split_at hlt, show m - 1 + 1 = m by omega] at hap
    generalize kept.getD (m - 1) api_Held.z = x at hd hmem hap ⊢
    have hok := k.ok x hmem
    have hnone : finH x.M.Client x.M.Seq qb.l = none := by
      refine List.find?_eq_none.2 fun y hy hk' => ?_
      have := (List.pairwise_cons.1 (List.pairwise_append.1 hap).2.1).1 y (hp.mem_iff.1 hy)
      rw [isK_iff] at hk'
      exact this ⟨hk'.1.symm, hk'.2.symm⟩
    obtain ⟨q', e1, e2⟩ := put_q' hnone (by omega) (by omega) hok.1 hok.2.1
    rw [e1, Option.bind_some, if_pos rfl]
    have hw : IntKind.wrap .i64 (((m - 1 : Nat) : Int) - 1) = ((m - 1 : Nat) : Int) - 1 := wr (by omega)
    rw [hw]
    refine ⟨_, rfl, .inl ⟨⟨m - 1, q', rfl, by omega, ?_⟩, by simp <;> omega⟩⟩
    rw [hd, e2]
    exact (insH_perm _ _).trans (hp.cons _)

theorem splicelaw06_HoldOrder_true (a0 : List api_Held) {p : Prop} (w0 : a0.length ≤ maxLen ∧ p) : splicelaw06_HoldOrder a0 = some true := by
  have hL : a0.length ≤ 9223372036854775807 := Nat.le_trans w0.1 (by decide)
  unfold splicelaw06_HoldOrder
  simp only [bnd]
  rw [awake_eq, Option.bind_some, if_pos rfl]
  unfold splicelaw06_HoldOrder.j1
  rw [if_neg (by decide)]
  refine loop_run (fun s => ∃ (i : Nat) (q : QL) (kept : List api_Held), s = splicelaw06_HoldOrder.S.l1 i q kept ∧ i ≤ a0.length ∧ Kept q kept) (fun s => match s with | .l1 i _ _ => a0.length - i.toNat | _ => 0) (fun r => r = some true) ?_ _ ⟨0, qNew, [], rfl, Nat.zero_le _, .nil⟩
  rintro s ⟨i, q, kept, rfl, hi, k⟩
  left
  have hklen := k.len
  have stop : ∃ s', splicelaw06_HoldOrder.j2 a0 qNew i q kept false = some (.inl s') ∧ goLoop (splicelaw06_HoldOrder.step a0 qNew) s' = some true := by
    have hw : IntKind.wrap .i64 ((kept.length : Int) - 1) = (kept.length : Int) - 1 := wr (by omega)
    refine ⟨.l2 q kept ((kept.length : Int) - 1) qNew, ?_, order_l2 a0 kept qNew q k _ ⟨kept.length, qNew, rfl, Nat.le_refl _, ?_⟩⟩
    · unfold splicelaw06_HoldOrder.j2
      rw [if_neg (by decide), hw]
    · rw [List.drop_length]
      exact .refl _
  simp only [splicelaw06_HoldOrder.step, splicelaw06_HoldOrder.l1]
  by_cases hlt : i < a0.length
  · rw [if_pos (by omega)]
    by_cases h60 : kept.length < 60
    · rw [decide_eq_true (by omega)]
      have hw : IntKind.wrap .i64 ((i : Int) + 1) = ((i + 1 : Nat) : Int) := wr1 hlt hL
      unfold splicelaw06_HoldOrder.j2
      rw [if_pos rfl, if_pos (by omega)]
      simp only [Int.toNat_natCast]
      have skip : ∃ s', splicelaw06_HoldOrder.j3 a0 i kept false q = some (.inl s') ∧ ((∃ (i : Nat) (q : QL) (kept : List api_Held), s' = splicelaw06_HoldOrder.S.l1 i q kept ∧ i ≤ a0.length ∧ Kept q kept) ∧ (match s' with | .l1 i _ _ => a0.length - i.toNat | _ => 0) < a0.length - i) := by
        refine ⟨.l1 ((i + 1 : Nat) : Int) q kept, ?_, ⟨i + 1, q, kept, rfl, by omega, k⟩, by simp <;> omega⟩
        simp only [splicelaw06_HoldOrder.j3, Bool.false_eq_true, if_false, splicelaw06_HoldOrder.j4, hw]
      by_cases h20 : ((a0.getD i api_Held.z).M.Pairs.length : Int) ≤ 20
      · rw [if_pos h20]
        obtain ⟨e, q', e1, e2⟩ := add_step k h60 (a0.getD i api_Held.z) (by omega)
        rw [e1, Option.bind_some]
        rcases e2 with ⟨rfl, k', _⟩ | ⟨hne, rfl⟩
        · simp only [show ((0 : Int) == 0) = true by decide]
          unfold splicelaw06_HoldOrder.j3
          rw [if_pos rfl, if_pos (by omega)]
          simp only [Int.toNat_natCast, splicelaw06_HoldOrder.j4, hw]
          exact ⟨_, rfl, .inl ⟨⟨i + 1, q', _, rfl, by omega, k'⟩, by simp <;> omega⟩⟩
        · simp only [beq_eq_false_iff_ne.2 hne]
          obtain ⟨s', s1, s2⟩ := skip
          exact ⟨s', s1, .inl s2⟩
      · rw [if_neg h20]
        obtain ⟨s', s1, s2⟩ := skip
        exact ⟨s', s1, .inl s2⟩
    · rw [decide_eq_false (by omega)]
      obtain ⟨s', s1, s2⟩ := stop
      exact ⟨s', s1, .inr s2⟩
  · rw [if_neg (by omega)]
    obtain ⟨s', s1, s2⟩ := stop
    exact ⟨s', s1, .inr s2⟩

/-! ### Act by act -/
structure PI (q : QL) (n : Nat) : Prop where
  len : q.l.length ≤ n
  ok : ∀ h ∈ q.l, timedB h.Time = true ∧ h.M.Pairs.length ≤ 20
theorem PI.mono {q : QL} {n m : Nat} (h : PI q n) (hm : n ≤ m) : PI q m := ⟨Nat.le_trans h.len hm, h.ok⟩
theorem timedB_iff {t : Int} : timedB t = true ↔ 0 ≤ t ∧ t ≤ 1099511627775 := by
  unfold timedB
  simp only [Bool.and_eq_true, decide_eq_true_eq, ge_iff_le]

theorem fin_none {c s : Int} {L : List api_Held} (h : ∀ x ∈ L, isK c s x = false) : finH c s L = none := List.find?_eq_none.2 fun x hx => by rw [h x hx]; simp
theorem fin_some {c s : Int} {q : QL} {i : Nat} (hi : i < q.l.length) (hk : isK c s (q.l.getD i api_Held.z) = true) : finH c s q.l = some (q.l.getD i api_Held.z) := finH_of q.good.apart (getD_memH hi) hk

theorem add_does {q : QL} {n : Nat} (h : PI q n) (hn : n ≤ 100) (x : api_Held) (hp : x.M.Pairs.length ≤ 20) :
    ∃ e q', spliceref06_Add (q.l.map trH) (trH x) = some (q'.l.map trH, e) ∧ qAdd q x = some (e, q') ∧ PI q' (n + 1) := by
  have hl := h.len
  rw [qAdd_eq q x (by omega) (by omega)]
  unfold spliceref06_Add
  have e0 : (trH x).M = trM x.M := rfl
  have e1 : (trH x).Time = x.Time := rfl
  rw [e0, ref_Check_eq _ (by omega), Option.bind_some]
  have bad : ∀ b, b = true → spliceref06_Add.j1 (q.l.map trH) (trH x) b = some (q.l.map trH, 1) := fun b hb => by
    unfold spliceref06_Add.j1
    rw [if_pos hb]
  cases hm : mOk x.M with
  | false =>
    rw [if_neg (by decide), if_neg (by simp), bad _ rfl]
    exact ⟨1, q, rfl, rfl, h.mono (by omega)⟩
  | true =>
    rw [if_pos rfl, e1]
    by_cases ht0 : x.Time < 0
    · have : timedB x.Time = false := by cases e : timedB x.Time with | false => rfl | true => (rw [timedB_iff] at e; omega)
      rw [if_pos ht0, if_neg (by simp [this]), bad _ rfl]
      exact ⟨1, q, rfl, rfl, h.mono (by omega)⟩
    · rw [if_neg ht0]
      by_cases ht1 : x.Time > 1099511627775
      · have : timedB x.Time = false := by cases e : timedB x.Time with | false => rfl | true => (rw [timedB_iff] at e; omega)
        rw [decide_eq_true ht1, if_neg (by simp [this]), bad _ rfl]
        exact ⟨1, q, rfl, rfl, h.mono (by omega)⟩
      · have ht : timedB x.Time = true := timedB_iff.2 ⟨by omega, by omega⟩
        rw [decide_eq_false ht1, if_pos ⟨rfl, ht⟩]
        unfold spliceref06_Add.j1
        rw [if_neg (by decide)]
        have e2 : (trH x).M.Client = x.M.Client := rfl
        have e3 : (trH x).M.Seq = x.M.Seq := rfl
        rw [e2, e3]
        rcases ref_find q.l (by omega) x.M.Client x.M.Seq with ⟨f1, f2⟩ | ⟨i, hi, f1, f2, f3⟩
        · rw [f1, Option.bind_some, if_neg (by decide), ref_with q.l (by omega), Option.bind_some]
          have hf := fin_none f2
          unfold qPut
          split
          · rename_i y e
            rw [hf] at e
            cases e
          · rw [dif_pos (show x.M.Pairs.length ≤ 1000000 by omega)]
            refine ⟨0, _, rfl, rfl, ?_, fun y hy => ?_⟩
            · have := (insH_perm x q.l).length_eq
              simp at this ⊢
              omega
            · rcases List.mem_cons.1 ((insH_perm x q.l).mem_iff.1 hy) with rfl | hy
              · exact ⟨ht, hp⟩
              · exact h.ok y hy
        · rw [f1, Option.bind_some, if_pos (by omega)]
          have hf := fin_some hi f2
          unfold qPut
          split
          · exact ⟨7, q, rfl, rfl, h.mono (by omega)⟩
          · rename_i e
            rw [hf] at e
            cases e

theorem qFinal_none {q : QL} {c s t : Int} (e : finH c s q.l = none) : qFinal q c s t = (4, q) := by
  unfold qFinal
  split
  · rename_i y e'
    rw [e] at e'
    cases e'
  · rfl
theorem qFinal_some {q : QL} {c s t : Int} {x : api_Held} (e : finH c s q.l = some x) : (x.Final = true → qFinal q c s t = (7, q)) ∧ (x.Final = false → (t < x.Time ∨ timedB t = false) → qFinal q c s t = (1, q)) ∧
    (x.Final = false → ¬ (t < x.Time ∨ timedB t = false) → ∃ hg, qFinal q c s t = (0, ⟨insH (toFinal x t) (delH c s q.l), hg⟩)) := by
  unfold qFinal
  split
  · rename_i y e'
    obtain rfl : y = x := by rw [e] at e'; injection e' with e'; exact e'.symm
    refine ⟨fun h => if_pos h, fun h k => ?_, fun h k => ⟨fin_good q.good e, ?_⟩⟩
    · rw [if_neg (by simp [h]), if_pos k]
    · rw [if_neg (by simp [h]), if_neg k]
  · rename_i e'
    rw [e] at e'
    cases e'

theorem final_does {q : QL} {n : Nat} (h : PI q n) (hn : n ≤ 100) (c s t : Int) :
    ∃ e q', spliceref06_Final (q.l.map trH) c s t = some (q'.l.map trH, e) ∧ qFinal q c s t = (e, q') ∧ PI q' (n + 1) := by
  have hl := h.len
  unfold spliceref06_Final
  rcases ref_find q.l (by omega) c s with ⟨f1, f2⟩ | ⟨i, hi, f1, f2, f3⟩
  · rw [f1, Option.bind_some, if_pos (by decide)]
    exact ⟨4, q, rfl, qFinal_none (fin_none f2), h.mono (by omega)⟩
  · rw [f1, Option.bind_some, if_neg (by omega), if_pos (by rw [List.length_map]; omega)]
    have hf := fin_some hi f2
    have hok := h.ok _ (getD_memH hi)
    have hdel := del_split q.good.apart hi f2 f3
    have hgd : (q.l.map trH).getD (i : Int).toNat spliceref06_Held.z = trH (q.l.getD i api_Held.z) := trH_at q.l hi
    rw [hgd]
    have hwo := ref_without q.l (by omega) hi
    have hlen : (q.l.take i ++ q.l.drop (i + 1)).length + 1 = q.l.length := by simp <;> omega
    have hj : ∀ b, spliceref06_Final.j1 (q.l.map trH) t (i : Int) b = if b = true then some (q.l.map trH, 1) else some ((insH (toFinal (q.l.getD i api_Held.z) t) (q.l.take i ++ q.l.drop (i + 1))).map trH, 0) := by
      intro b
      unfold spliceref06_Final.j1
      cases b with
      | true => rfl
      | false =>
        rw [if_neg (by decide), if_neg (by decide), hwo, Option.bind_some, hgd]
        have e5 : (⟨(trH (q.l.getD i api_Held.z)).M, t, true⟩ : spliceref06_Held) = trH (toFinal (q.l.getD i api_Held.z) t) := rfl
        rw [e5, ref_with _ (by omega), Option.bind_some]
    generalize hx : q.l.getD i api_Held.z = x at hf hok hj f2 ⊢
    have e1 : (trH x).Final = x.Final := rfl
    have e2 : (trH x).Time = x.Time := rfl
    rw [e1, e2]
    obtain ⟨g1, g2, g3⟩ := qFinal_some (t := t) hf
    cases hfin : x.Final with
    | true =>
      rw [if_pos rfl]
      exact ⟨7, q, rfl, g1 hfin, h.mono (by omega)⟩
    | false =>
      rw [if_neg (by decide)]
      have ht0 := timedB_iff.1 hok.1
      by_cases ht : t < x.Time
      · rw [if_pos ht, hj, if_pos rfl]
        exact ⟨1, q, rfl, g2 hfin (.inl ht), h.mono (by omega)⟩
      · rw [if_neg ht, hj]
        by_cases ht1 : t > 1099511627775
        · have : timedB t = false := by cases e : timedB t with | false => rfl | true => (rw [timedB_iff] at e; omega)
          rw [if_pos (decide_eq_true ht1)]
          exact ⟨1, q, rfl, g2 hfin (.inr this), h.mono (by omega)⟩
        · have htt : timedB t = true := timedB_iff.2 ⟨by omega, by omega⟩
          rw [if_neg (by simpa using ht1)]
          obtain ⟨hg, g4⟩ := g3 hfin (by rw [htt]; simp; omega)
          refine ⟨0, _, ?_, g4, ?_, fun z hz => ?_⟩
          · simp only [hdel]
          · have := (insH_perm (toFinal x t) (delH c s q.l)).length_eq
            simp only
            rw [this, hdel]
            simp at hlen ⊢
            omega
          · rcases List.mem_cons.1 ((insH_perm _ _).mem_iff.1 hz) with rfl | hz
            · exact ⟨htt, hok.2⟩
            · exact h.ok z (List.mem_filter.1 hz).1

theorem drop_does {q : QL} {n : Nat} (h : PI q n) (hn : n ≤ 100) (c s : Int) :
    ∃ e q', spliceref06_Drop (q.l.map trH) c s = some (q'.l.map trH, e) ∧ qDrop q c s = (e, q') ∧ PI q' (n + 1) := by
  have hl := h.len
  unfold spliceref06_Drop
  rcases ref_find q.l (by omega) c s with ⟨f1, f2⟩ | ⟨i, hi, f1, f2, f3⟩
  · rw [f1, Option.bind_some, if_pos (by decide)]
    have hf := fin_none f2
    unfold qDrop
    rw [hf]
    exact ⟨4, q, rfl, rfl, h.mono (by omega)⟩
  · rw [f1, Option.bind_some, if_neg (by omega), ref_without q.l (by omega) hi, Option.bind_some]
    have hf := fin_some hi f2
    have hdel := del_split q.good.apart hi f2 f3
    unfold qDrop
    rw [hf]
    refine ⟨0, _, ?_, rfl, ?_, fun z hz => h.ok z (List.mem_filter.1 hz).1⟩
    · simp only [hdel]
    · simp only
      exact Nat.le_trans (List.length_filter_le _ _) (by omega)

theorem pop_does {q : QL} {n : Nat} (h : PI q n) (hn : n ≤ 100) :
    spliceref06_Pop (q.l.map trH) = some ((qPop q).2.2.l.map trH, trH (qPop q).1, (qPop q).2.1) ∧ PI (qPop q).2.2 (n + 1) ∧ (qPop q).1.M.Pairs.length ≤ 20 := by
  have hl := h.len
  unfold spliceref06_Pop
  obtain ⟨L, g⟩ := q
  cases L with
  | nil => exact ⟨rfl, h.mono (by omega), by simp [qPop, zeroH]⟩
  | cons x xs =>
    have hok := h.ok x (List.mem_cons_self ..)
    have e1 : ((x :: xs).map trH).getD 0 spliceref06_Held.z = trH x := rfl
    simp only at hl ⊢
    rw [if_neg (by simp <;> omega), if_pos (by simp <;> omega), e1]
    have e2 : (trH x).Final = x.Final := rfl
    rw [e2]
    cases hf : x.Final with
    | false =>
      rw [pop_stop hf]
      refine ⟨?_, h.mono (by omega), by simp [zeroH]⟩
      rfl
    | true =>
      obtain ⟨g', e⟩ := pop_cons (g := g) hf
      rw [e]
      unfold spliceref06_Pop.j1
      have hw := ref_without (x :: xs) (by omega) (i := 0) (by simp)
      rw [show ((0 : Nat) : Int) = 0 from rfl] at hw
      rw [if_neg (by decide), hw, Option.bind_some, if_pos (by simp <;> omega), e1]
      refine ⟨rfl, ⟨by simp at hl ⊢; omega, fun z hz => h.ok z (List.mem_cons_of_mem _ hz)⟩, hok.2⟩

theorem find_does {q : QL} {n : Nat} (h : PI q n) (hn : n ≤ 100) (c s : Int) :
    spliceref06_Find (q.l.map trH) c s = some (trH (qFind q c s).1, (qFind q c s).2) ∧ (qFind q c s).1.M.Pairs.length ≤ 20 := by
  have hl := h.len
  unfold spliceref06_Find qFind
  rcases ref_find q.l (by omega) c s with ⟨f1, f2⟩ | ⟨i, hi, f1, f2, f3⟩
  · rw [f1, Option.bind_some, if_pos (by decide), fin_none f2]
    exact ⟨rfl, by simp [zeroH]⟩
  · have hgd : (q.l.map trH).getD (i : Int).toNat spliceref06_Held.z = trH (q.l.getD i api_Held.z) := trH_at q.l hi
    rw [f1, Option.bind_some, if_neg (by omega), if_pos (by rw [List.length_map]; omega), fin_some hi f2, hgd]
    exact ⟨rfl, (h.ok _ (getD_memH hi)).2⟩

theorem does_spec {q : QL} {n : Nat} (h : PI q n) (hn : n ≤ 100) (x : splicelaw06_Act) (hp : x.H.M.Pairs.length ≤ 20) :
    ∃ q', splicelaw06_does q (q.l.map trH) x = some (q'.l.map trH, true, q') ∧ PI q' (n + 1) := by
  unfold splicelaw06_does
  by_cases k0 : x.Kind = 0
  · obtain ⟨e, q', e1, e2, e3⟩ := add_does h hn x.H hp
    rw [if_pos k0, Ref_eq _ (by omega), Option.bind_some, e1, Option.bind_some, e2, Option.bind_some]
    exact ⟨q', by simp, e3⟩
  · rw [if_neg k0]
    by_cases k1 : x.Kind = 1
    · obtain ⟨e, q', e1, e2, e3⟩ := final_does h hn x.H.M.Client x.H.M.Seq x.H.Time
      rw [if_pos k1, e1, Option.bind_some]
      simp only [bnd, e2]
      exact ⟨q', by simp, e3⟩
    · rw [if_neg k1]
      by_cases k2 : x.Kind = 2
      · obtain ⟨e, q', e1, e2, e3⟩ := drop_does h hn x.H.M.Client x.H.M.Seq
        rw [if_pos k2, e1, Option.bind_some]
        simp only [bnd, e2]
        exact ⟨q', by simp, e3⟩
      · rw [if_neg k2]
        by_cases k3 : x.Kind = 3
        · obtain ⟨e1, e2, e3⟩ := pop_does h hn
          rw [if_pos k3, e1, Option.bind_some]
          simp only [bnd]
          rw [Ref_eq _ (by omega), Option.bind_some, SameOne_refl _ (by simpa [trH, trM] using Nat.le_trans e3 (by decide)), Option.bind_some, if_pos rfl]
          refine ⟨(qPop q).2.2, ?_, e2⟩
          simp [splicelaw06_does.j1]
        · rw [if_neg k3]
          by_cases k4 : x.Kind = 4
          · obtain ⟨e1, e3⟩ := find_does h hn x.H.M.Client x.H.M.Seq
            rw [if_pos k4, e1, Option.bind_some]
            simp only [bnd]
            rw [Ref_eq _ (by omega), Option.bind_some, SameOne_refl _ (by simpa [trH, trM] using Nat.le_trans e3 (by decide)), Option.bind_some, if_pos rfl]
            refine ⟨q, ?_, h.mono (by omega)⟩
            simp [splicelaw06_does.j2]
          · rw [if_neg k4]
            exact ⟨q, rfl, h.mono (by omega)⟩

theorem ref_floor (q : QL) (c : Int) : spliceref06_Floor (q.l.map trH) c = some (qFloor q c) := by
  unfold spliceref06_Floor qFloor
  obtain ⟨L, g⟩ := q
  cases L with
  | nil => rfl
  | cons x xs =>
    rw [if_neg (by simp <;> omega), if_pos (by simp <;> omega)]
    rfl

theorem splicelaw06_HoldPlays_true (a0 : List splicelaw06_Act) (a1 : Int) {p p1 : Prop} (w0 : a0.length ≤ maxLen ∧ p) (w1 : p1) : splicelaw06_HoldPlays a0 a1 = some true := by
  have hL : a0.length ≤ 9223372036854775807 := Nat.le_trans w0.1 (by decide)
  unfold splicelaw06_HoldPlays
  simp only [bnd]
  rw [awake_eq, Option.bind_some, if_pos rfl]
  unfold splicelaw06_HoldPlays.j1
  rw [if_neg (by decide)]
  refine loop_run (fun s => ∃ (i : Nat) (q : QL), s = splicelaw06_HoldPlays.S.l1 (q.l.map trH) i q ∧ i ≤ a0.length ∧ i ≤ 100 ∧ PI q i) (fun s => match s with | .l1 _ i _ => a0.length - i.toNat) (fun r => r = some true) ?_ _ ⟨0, qNew, rfl, Nat.zero_le _, Nat.zero_le _, ⟨Nat.le_refl _, fun h hh => (by cases hh)⟩⟩
  rintro s ⟨i, q, rfl, hi, h100, h⟩
  simp only [splicelaw06_HoldPlays.step, splicelaw06_HoldPlays.l1]
  by_cases hlt : i < a0.length
  · rw [if_pos (by omega)]
    by_cases h1 : i < 100
    · left
      rw [decide_eq_true (by omega)]
      have hw : IntKind.wrap .i64 ((i : Int) + 1) = ((i + 1 : Nat) : Int) := wr1 hlt hL
      unfold splicelaw06_HoldPlays.j2
      rw [if_pos rfl, if_pos (by omega)]
      simp only [Int.toNat_natCast, hw]
      by_cases hlight : splicelaw06_light (a0.getD i splicelaw06_Act.z) = true
      · rw [if_pos hlight]
        have hp : (a0.getD i splicelaw06_Act.z).H.M.Pairs.length ≤ 20 := by
          unfold splicelaw06_light at hlight
          simp only [decide_eq_true_eq] at hlight
          omega
        obtain ⟨q', e1, e2⟩ := does_spec h (by omega) _ hp
        have hl2 := e2.len
        have hsm : ∀ h ∈ q'.l, h.M.Pairs.length ≤ 5000 := fun h hh => by have := (e2.ok h hh).2; omega
        rw [e1, Option.bind_some, if_pos rfl, if_pos (by simp [qLen]), ref_floor, Option.bind_some, if_pos rfl, qAll_eq q' (by omega), Option.bind_some, Refs_eq q'.l (by omega) hsm, Option.bind_some]
        simp only
        rw [Same_refl q'.l (by omega) hsm, Option.bind_some]
        simp only [Bool.not_true, splicelaw06_HoldPlays.j3, Bool.false_eq_true, if_false, hw]
        exact ⟨_, rfl, .inl ⟨⟨i + 1, q', rfl, by omega, by omega, e2⟩, by simp <;> omega⟩⟩
      · rw [if_neg hlight]
        exact ⟨_, rfl, .inl ⟨⟨i + 1, q, rfl, by omega, by omega, h.mono (by omega)⟩, by simp <;> omega⟩⟩
    · right
      rw [decide_eq_false (by omega)]
      exact ⟨true, rfl, rfl⟩
  · right
    rw [if_neg (by omega)]
    exact ⟨true, rfl, rfl⟩
end Go.SyP
