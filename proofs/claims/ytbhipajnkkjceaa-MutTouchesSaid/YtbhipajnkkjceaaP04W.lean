/- The laws of mutations: text, checks, order, apart, reads, back. -/
import Derived.Test.YtbhipajnkkjceaaP04V
set_option linter.unusedVariables false
set_option linter.unusedSimpArgs false
namespace Go.SyP
open Go Go.Sy Sets

theorem few4 (m : api_Mut) : splicelaw04_few m = decide (m.Pairs.length ≤ 100) := by
  unfold splicelaw04_few
  rw [Bool.eq_iff_iff]
  simp
  omega
theorem awake4 : splicelaw04_awake = some true := by
  have e1 : mut_Touch ⟨1, 1, 5, [⟨9, 3⟩, ⟨4, 3⟩], ⟨0, 0⟩, 0⟩ = some [⟨4, 5⟩, ⟨9, 10⟩] := by
    obtain ⟨T, h1, h2, h3⟩ := mut_Touch_eq (m := ⟨1, 1, 5, [⟨9, 3⟩, ⟨4, 3⟩], ⟨0, 0⟩, 0⟩) (by decide)
    rw [h1]
    congr 1
    refine pa_inj (Canon.unique h2.1 ⟨fun x hx => ?_, ?_⟩ fun k => (h3 k).trans ?_)
    · simp [pa] at hx
      rcases hx with rfl | rfl <;> decide
    · simp [pa]
    · unfold touB
      simp only [look, List.map_cons, List.map_nil, mem_cons, pa]
      by_cases h9 : (9 : Int) = k
      · subst h9; simp
      · by_cases h4 : (4 : Int) = k
        · subst h4; simp
        · simp only [if_neg h9, if_neg h4]
          simp
          refine ⟨by omega, by omega, mem_nil⟩
  have e2 : mut_Text ⟨1, 2, 1, [⟨5, 7⟩], ⟨0, 0⟩, 0⟩ = some (bs [1, 2, 1, 1, 5, 14]) := by
    rw [mut_Text_good (by decide)]
    congr 2
    simp [txt, headT, tailT, pairT, numT, wholeT, zig, numU_small]
  unfold splicelaw04_awake
  rw [e1, Option.bind_some, e2, Option.bind_some, toList_bs, show (⟨#[1, 2, 1, 1, 5, 14]⟩ : ByteArray) = bs [1, 2, 1, 1, 5, 14] from rfl, toList_bs]
  simp [splicelaw04_awake.j1]
theorem out4 : ((splicelaw04_awake).bind fun v => some v) = some true := by rw [awake4]; rfl

theorem splicelaw04_MutTexts_true (a : api_Mut) : splicelaw04_MutTexts a = some true := by
  unfold splicelaw04_MutTexts
  rw [few4]
  by_cases h : a.Pairs.length ≤ 100
  · rw [if_pos (decide_eq_true h), awake4, Option.bind_some, if_pos rfl, mut_Text_eq a (by omega), Option.bind_some, RefM_eq a (by omega), Option.bind_some, ref_Text_eq a (by omega), Option.bind_some]
    simp [splicelaw04_MutTexts.j1]
  · rw [if_neg (by simpa using h)]
    exact out4
theorem splicelaw04_MutChecks_true (a : api_Mut) : splicelaw04_MutChecks a = some true := by
  unfold splicelaw04_MutChecks
  rw [few4]
  by_cases h : a.Pairs.length ≤ 100
  · rw [if_pos (decide_eq_true h), RefM_eq a (by omega), Option.bind_some, ref_Check_eq a (by omega), Option.bind_some, awake4, Option.bind_some, if_pos rfl, mut_Check_eq a (by omega), Option.bind_some, alone_eq a (by omega)]
    by_cases hk : mOk a = true
    · rw [if_pos hk, if_pos hk, Option.bind_some]
      simp only [hk, Bool.true_and, splicelaw04_MutChecks.j1]
      by_cases k3 : a.Kind = 3
      · simp [k3]
      · simp [k3]
        by_cases k4 : a.Kind = 4 <;> simp [k4]
    · rw [if_neg hk, if_neg hk, Option.bind_some]
      simp only [hk, splicelaw04_MutChecks.j1]
      simp [hk]
  · rw [if_neg (by simpa using h)]
    exact out4

/-! ### How stamps stand -/
def cmp3 (x y : Int) : Int := if x < y then -1 else if x > y then 1 else 0
def cmpS (a b : api_Stamp) : Int := if cmp3 a.Time b.Time ≠ 0 then cmp3 a.Time b.Time else if cmp3 a.Client b.Client ≠ 0 then cmp3 a.Client b.Client else cmp3 a.Seq b.Seq
theorem cmp_eq (x y : Int) : cmp_Compare_int x y = cmp3 x y := by
  unfold cmp_Compare_int cmp_isNaN_int cmp3
  by_cases h1 : x < y
  · simp [h1]
  · by_cases h2 : x > y
    · simp [h1, h2]
    · simp [h1, h2]
theorem mut_Compare_eq (a b : api_Stamp) : mut_Compare a b = some (cmpS a b) := by
  unfold mut_Compare cmp_Or_int cmpS
  rw [cmp_eq, cmp_eq, cmp_eq]
  generalize cmp3 a.Time b.Time = x
  generalize cmp3 a.Client b.Client = y
  generalize cmp3 a.Seq b.Seq = z
  have w0 : IntKind.wrap .i64 ((0 : Int) + 1) = 1 := by decide
  have w1 : IntKind.wrap .i64 ((1 : Int) + 1) = 2 := by decide
  have w2 : IntKind.wrap .i64 ((2 : Int) + 1) = 3 := by decide
  rw [loop_eq]
  simp only [cmp_Or_int.step, cmp_Or_int.l1, List.length_cons, List.length_nil]
  by_cases hx : x = 0
  · subst hx
    simp only [w0, stk]
    rw [show (if (0 : Int) < ((0 + 1 + 1 + 1 : Nat) : Int) then _ else _) = _ from if_pos (by decide), if_pos (by decide)]
    simp only [List.getD_cons_zero, Int.toNat_zero, if_true]
    rw [loop_eq]
    simp only [cmp_Or_int.step, cmp_Or_int.l1, List.length_cons, List.length_nil, w1]
    rw [if_pos (by decide), if_pos (by decide)]
    simp only [show (1 : Int).toNat = 1 from rfl, List.getD_cons_succ, List.getD_cons_zero]
    by_cases hy : y = 0
    · subst hy
      simp only [if_true, stk]
      rw [loop_eq]
      simp only [cmp_Or_int.step, cmp_Or_int.l1, List.length_cons, List.length_nil, w2]
      rw [if_pos (by decide), if_pos (by decide)]
      simp only [show (2 : Int).toNat = 2 from rfl, List.getD_cons_succ, List.getD_cons_zero]
      by_cases hz : z = 0
      · subst hz
        simp only [if_true, stk]
        rw [loop_eq]
        simp [cmp_Or_int.step, cmp_Or_int.l1, stk]
      · simp [hz, stk]
    · simp [hy, stk]
  · rw [if_pos (by decide), if_pos (by decide)]
    simp [hx, stk]

theorem cmp3_cases (x y : Int) : (cmp3 x y = -1 ∧ x < y) ∨ (cmp3 x y = 0 ∧ x = y) ∨ (cmp3 x y = 1 ∧ x > y) := by
  unfold cmp3
  split
  · exact .inl ⟨rfl, ‹_›⟩
  · split
    · exact .inr (.inr ⟨rfl, ‹_›⟩)
    · exact .inr (.inl ⟨rfl, by omega⟩)
/-- One stamp is ahead of another. -/
def aheadS (a b : api_Stamp) : Prop := a.Time < b.Time ∨ a.Time = b.Time ∧ (a.Client < b.Client ∨ a.Client = b.Client ∧ a.Seq < b.Seq)
theorem cmpS_cases (a b : api_Stamp) : (cmpS a b = -1 ∧ aheadS a b) ∨ (cmpS a b = 0 ∧ a = b) ∨ (cmpS a b = 1 ∧ aheadS b a) := by
  unfold cmpS aheadS
  rcases cmp3_cases a.Time b.Time with ⟨e, h⟩ | ⟨e, h⟩ | ⟨e, h⟩
  · rw [e]; exact .inl ⟨rfl, .inl h⟩
  · rw [e]
    rcases cmp3_cases a.Client b.Client with ⟨e2, h2⟩ | ⟨e2, h2⟩ | ⟨e2, h2⟩
    · rw [e2]; exact .inl ⟨rfl, .inr ⟨h, .inl h2⟩⟩
    · rw [e2]
      rcases cmp3_cases a.Seq b.Seq with ⟨e3, h3⟩ | ⟨e3, h3⟩ | ⟨e3, h3⟩
      · rw [e3]; exact .inl ⟨rfl, .inr ⟨h, .inr ⟨h2, h3⟩⟩⟩
      · rw [e3]
        refine .inr (.inl ⟨rfl, ?_⟩)
        cases a; cases b
        simp only at h h2 h3
        rw [h, h2, h3]
      · rw [e3]; exact .inr (.inr ⟨rfl, .inr ⟨h.symm, .inr ⟨h2.symm, h3⟩⟩⟩)
    · rw [e2]; exact .inr (.inr ⟨rfl, .inr ⟨h.symm, .inl h2⟩⟩)
  · rw [e]; exact .inr (.inr ⟨rfl, .inl h⟩)
theorem aheadS_irrefl {a b : api_Stamp} (h : aheadS a b) : ¬ aheadS b a ∧ a ≠ b := by
  unfold aheadS at *
  refine ⟨by omega, ?_⟩
  rintro rfl
  omega
theorem splicelaw04_MutOrder_true (a b c : api_Stamp) : splicelaw04_MutOrder a b c = some true := by
  unfold splicelaw04_MutOrder splicelaw04_MutOrder.j1
  simp only [mut_Compare_eq, Option.bind_some, awake4, if_true]
  have h1 := cmpS_cases a b
  have h2 := cmpS_cases b a
  have h3 := cmpS_cases b c
  have h4 := cmpS_cases a c
  have hsym : cmpS a b = IntKind.wrap .i64 (0 - cmpS b a) := by
    rcases h1 with ⟨e1, g1⟩ | ⟨e1, g1⟩ | ⟨e1, g1⟩ <;> rcases h2 with ⟨e2, g2⟩ | ⟨e2, g2⟩ | ⟨e2, g2⟩ <;> rw [e1, e2] <;> first
      | decide
      | exact absurd g2 (aheadS_irrefl g1).1
      | exact absurd g2.symm (aheadS_irrefl g1).2
      | exact absurd g2 (aheadS_irrefl g1).2
      | exact absurd g1.symm (aheadS_irrefl g2).2
      | exact absurd g1 (aheadS_irrefl g2).2
  rw [if_pos hsym]
  by_cases p1 : cmpS a b > 0
  · rw [if_pos p1]
  · rw [if_neg p1]
    by_cases p2 : cmpS b c > 0
    · rw [if_pos p2]
    · rw [if_neg p2]
      congr 1
      rw [decide_eq_true_iff]
      rcases h4 with ⟨e4, g4⟩ | ⟨e4, g4⟩ | ⟨e4, g4⟩
      · omega
      · omega
      · exfalso
        rcases h1 with ⟨e1, g1⟩ | ⟨e1, g1⟩ | ⟨e1, g1⟩
        · rcases h3 with ⟨e3, g3⟩ | ⟨e3, g3⟩ | ⟨e3, g3⟩
          · unfold aheadS at g1 g3 g4; omega
          · subst g3; exact (aheadS_irrefl g1).1 g4
          · omega
        · subst g1
          rcases h3 with ⟨e3, g3⟩ | ⟨e3, g3⟩ | ⟨e3, g3⟩
          · exact (aheadS_irrefl g3).1 g4
          · subst g3; exact (aheadS_irrefl g4).2 rfl
          · omega
        · omega

/-! ### The same -/
theorem equal_eq (x y : List api_Pair) (hn : x.length ≤ 5000) : ∃ r, slices_Equal_api_Pair x y = some r ∧ (r = true ↔ x = y) := by
  unfold slices_Equal_api_Pair
  by_cases hl : (x.length : Int) = (y.length : Int)
  · rw [if_pos hl]
    refine for_post (n := x.length) (fun i (_ : Unit) => slices_Equal_api_Pair.S.l1 (i : Int)) (fun i _ => x.take i = y.take i) _ ?_ ?_ 0 () (Nat.zero_le _) (by simp)
    · intro _ h
      rw [take_all (Nat.le_refl _), take_all (by omega)] at h
      exact ⟨true, by simp [slices_Equal_api_Pair.step, slices_Equal_api_Pair.l1], by simp [h]⟩
    · intro i _ hi h
      have hstep : (0 : Int) ≤ (i : Int) ∧ (i : Int) < (x.length : Int) := by omega
      have hstep2 : (0 : Int) ≤ (i : Int) ∧ (i : Int) < (y.length : Int) := by omega
      have hx := take_atI (l := x) (z := api_Pair.z) hi
      have hy := take_atI (l := y) (z := api_Pair.z) (i := i) (by omega)
      simp only [slices_Equal_api_Pair.step, slices_Equal_api_Pair.l1, hstep.2, if_true, hstep, hstep2, and_self, wr1 hi (by omega : x.length ≤ 9223372036854775807)]
      generalize x.getD (i : Int).toNat api_Pair.z = X at hx ⊢
      generalize y.getD (i : Int).toNat api_Pair.z = Y at hy ⊢
      by_cases hXY : X = Y
      · left
        subst hXY
        exact ⟨(), by simp, by rw [hx, hy, h]⟩
      · right
        have hne : x ≠ y := by
          rintro rfl
          rw [hx] at hy
          exact hXY (by simpa using hy)
        refine ⟨false, ?_, by simp [hne]⟩
        by_cases h1 : X.Key = Y.Key
        · by_cases h2 : X.Val = Y.Val
          · exact absurd (by cases X; cases Y; simp only at h1 h2; subst h1; subst h2; rfl) hXY
          · rw [if_pos h1, if_neg h2]
        · rw [if_neg h1]
          split <;> rfl
  · rw [if_neg hl]
    exact ⟨false, rfl, by simp; rintro rfl; exact hl rfl⟩
theorem ref_Same_loop (a b : spliceref04_Mut) (hn : a.Pairs.length ≤ 5000) (hl : a.Pairs.length = b.Pairs.length) : ∃ r, goLoop (spliceref04_Same.step a b) (.l1 0) = some r ∧ (r = true ↔ a.Pairs = b.Pairs) := by
  refine for_post (n := a.Pairs.length) (fun i (_ : Unit) => spliceref04_Same.S.l1 (i : Int)) (fun i _ => a.Pairs.take i = b.Pairs.take i) _ ?_ ?_ 0 () (Nat.zero_le _) (by simp)
  · intro _ h
    rw [take_all (Nat.le_refl _), take_all (by omega)] at h
    exact ⟨true, by simp [spliceref04_Same.step, spliceref04_Same.l1], by simp [h]⟩
  · intro i _ hi h
    have hstep : (0 : Int) ≤ (i : Int) ∧ (i : Int) < (a.Pairs.length : Int) := by omega
    have hstep2 : (0 : Int) ≤ (i : Int) ∧ (i : Int) < (b.Pairs.length : Int) := by omega
    have hx := take_atI (l := a.Pairs) (z := spliceref04_Pair.z) hi
    have hy := take_atI (l := b.Pairs) (z := spliceref04_Pair.z) (i := i) (by omega)
    simp only [spliceref04_Same.step, spliceref04_Same.l1, hstep.2, if_true, hstep, hstep2, and_self, wr1 hi (by omega : a.Pairs.length ≤ 9223372036854775807)]
    generalize a.Pairs.getD (i : Int).toNat spliceref04_Pair.z = X at hx ⊢
    generalize b.Pairs.getD (i : Int).toNat spliceref04_Pair.z = Y at hy ⊢
    by_cases hXY : X = Y
    · left
      subst hXY
      exact ⟨(), by simp, by rw [hx, hy, h]⟩
    · right
      have hne : a.Pairs ≠ b.Pairs := by
        intro e
        rw [e] at hx h
        rw [hx] at hy
        exact hXY (by simpa using hy)
      refine ⟨false, ?_, by simp [hne]⟩
      by_cases h1 : X.Key = Y.Key
      · by_cases h2 : X.Val = Y.Val
        · exact absurd (by cases X; cases Y; simp only at h1 h2; subst h1; subst h2; rfl) hXY
        · rw [if_pos h1, if_neg h2]
      · rw [if_neg h1]
        split <;> rfl
theorem mut_ext {a b : api_Mut} : a = b ↔ a.Client = b.Client ∧ a.Seq = b.Seq ∧ a.Kind = b.Kind ∧ a.Over.Lo = b.Over.Lo ∧ a.Over.Hi = b.Over.Hi ∧ a.Old = b.Old ∧ a.Pairs = b.Pairs := by
  constructor
  · rintro rfl; exact ⟨rfl, rfl, rfl, rfl, rfl, rfl, rfl⟩
  · rintro ⟨h1, h2, h3, h4, h5, h6, h7⟩
    cases a; cases b
    rename_i o1 _ _ _ _ _ o2 _
    cases o1; cases o2
    simp only at h1 h2 h3 h4 h5 h6 h7
    rw [h1, h2, h3, h4, h5, h6, h7]
theorem mutR_ext {a b : spliceref04_Mut} : a = b ↔ a.Client = b.Client ∧ a.Seq = b.Seq ∧ a.Kind = b.Kind ∧ a.Over.Lo = b.Over.Lo ∧ a.Over.Hi = b.Over.Hi ∧ a.Old = b.Old ∧ a.Pairs = b.Pairs := by
  constructor
  · rintro rfl; exact ⟨rfl, rfl, rfl, rfl, rfl, rfl, rfl⟩
  · rintro ⟨h1, h2, h3, h4, h5, h6, h7⟩
    cases a; cases b
    rename_i o1 _ _ _ _ _ o2 _
    cases o1; cases o2
    simp only at h1 h2 h3 h4 h5 h6 h7
    rw [h1, h2, h3, h4, h5, h6, h7]
theorem mut_Same_eq (a b : api_Mut) (hn : a.Pairs.length ≤ 5000) : ∃ r, mut_Same a b = some r ∧ (r = true ↔ a = b) := by
  unfold mut_Same mut_Same.j1
  rw [mut_ext]
  by_cases h1 : a.Client = b.Client
  · by_cases h2 : a.Seq = b.Seq
    · by_cases h3 : a.Kind = b.Kind
      · by_cases h4 : a.Over.Lo = b.Over.Lo
        · by_cases h5 : a.Over.Hi = b.Over.Hi
          · by_cases h6 : a.Old = b.Old
            · obtain ⟨r, e1, e2⟩ := equal_eq a.Pairs b.Pairs hn
              rw [if_pos h1, if_pos h2, if_pos h3, if_pos h4, if_pos h5, if_pos h6, e1]
              exact ⟨r, rfl, by rw [e2]; simp [h1, h2, h3, h4, h5, h6]⟩
            · exact ⟨false, by rw [if_pos h1, if_pos h2, if_pos h3, if_pos h4, if_pos h5, if_neg h6], by simp [h6]⟩
          · exact ⟨false, by rw [if_pos h1, if_pos h2, if_pos h3, if_pos h4, if_neg h5], by simp [h5]⟩
        · exact ⟨false, by rw [if_pos h1, if_pos h2, if_pos h3, if_neg h4]; split <;> rfl, by simp [h4]⟩
      · exact ⟨false, by rw [if_pos h1, if_pos h2, if_neg h3], by simp [h3]⟩
    · exact ⟨false, by rw [if_pos h1, if_neg h2], by simp [h2]⟩
  · exact ⟨false, by rw [if_neg h1], by simp [h1]⟩
theorem ref_Same_eq (a b : spliceref04_Mut) (hn : a.Pairs.length ≤ 5000) : ∃ r, spliceref04_Same a b = some r ∧ (r = true ↔ a = b) := by
  unfold spliceref04_Same
  rw [mutR_ext]
  have jt : spliceref04_Same.j1 a b true = some false := rfl
  by_cases h1 : a.Client = b.Client
  · by_cases h2 : a.Seq = b.Seq
    · by_cases h3 : a.Kind = b.Kind
      · by_cases h4 : a.Over.Lo = b.Over.Lo
        · by_cases h5 : a.Over.Hi = b.Over.Hi
          · by_cases h6 : a.Old = b.Old
            · rw [if_pos h1, if_pos h2, if_pos h3, if_pos h4, if_pos h5, if_pos h6]
              by_cases hl : a.Pairs.length = b.Pairs.length
              · rw [show ((a.Pairs.length : Int) != (b.Pairs.length : Int)) = false by simp [hl]]
                obtain ⟨r, e1, e2⟩ := ref_Same_loop a b hn hl
                exact ⟨r, e1, by rw [e2]; simp [h1, h2, h3, h4, h5, h6]⟩
              · rw [show ((a.Pairs.length : Int) != (b.Pairs.length : Int)) = true by simp; omega]
                exact ⟨false, jt, by simp; intro _ _ _ _ _ _ h; exact hl (by rw [h])⟩
            · exact ⟨false, by rw [if_pos h1, if_pos h2, if_pos h3, if_pos h4, if_pos h5, if_neg h6, jt], by simp [h6]⟩
          · exact ⟨false, by rw [if_pos h1, if_pos h2, if_pos h3, if_pos h4, if_neg h5, jt], by simp [h5]⟩
        · exact ⟨false, by rw [if_pos h1, if_pos h2, if_pos h3, if_neg h4, jt]; split <;> rfl, by simp [h4]⟩
      · exact ⟨false, by rw [if_pos h1, if_pos h2, if_neg h3, jt], by simp [h3]⟩
    · exact ⟨false, by rw [if_pos h1, if_neg h2, jt], by simp [h2]⟩
  · exact ⟨false, by rw [if_neg h1, jt], by simp [h1]⟩
theorem trM_inj {a b : api_Mut} : trM a = trM b ↔ a = b := by
  rw [mutR_ext, mut_ext]
  unfold trM
  simp only
  constructor
  · rintro ⟨h1, h2, h3, h4, h5, h6, h7⟩; exact ⟨h1, h2, h3, h4, h5, h6, tr_inj h7⟩
  · rintro ⟨h1, h2, h3, h4, h5, h6, h7⟩; exact ⟨h1, h2, h3, h4, h5, h6, by rw [h7]⟩

theorem splicelaw04_MutApart_true (a b : api_Mut) : splicelaw04_MutApart a b = some true := by
  unfold splicelaw04_MutApart
  simp only [few4]
  have stop : splicelaw04_MutApart.j1 a b true = some true := by
    unfold splicelaw04_MutApart.j1
    rw [if_pos rfl]
    exact out4
  by_cases h : a.Pairs.length ≤ 100
  · rw [if_pos (decide_eq_true h)]
    by_cases h' : b.Pairs.length ≤ 100
    · rw [decide_eq_true h']
      unfold splicelaw04_MutApart.j1
      rw [if_neg (by decide), RefM_eq a (by omega), Option.bind_some, RefM_eq b (by omega), Option.bind_some]
      obtain ⟨r, e1, e2⟩ := ref_Same_eq (trM a) (trM b) (by simp [trM]; omega)
      obtain ⟨s, e3, e4⟩ := mut_Same_eq a b (by omega)
      rw [e1, Option.bind_some, e3, Option.bind_some]
      rw [trM_inj] at e2
      have hrs : r = s := by rw [Bool.eq_iff_iff, e2, e4]
      subst hrs
      have fin : ∀ x : Bool, (x = true ↔ a = b) → splicelaw04_MutApart.j2 a b x = some true := by
        intro x hx
        unfold splicelaw04_MutApart.j2 splicelaw04_MutApart.j3
        rw [mut_Check_eq a (by omega), Option.bind_some]
        by_cases ha : mOk a = true
        · rw [if_pos ha, mut_Check_eq b (by omega), Option.bind_some]
          by_cases hb : mOk b = true
          · rw [if_neg (by simp [hb]), awake4, Option.bind_some, if_pos rfl, mut_Text_good ha, Option.bind_some, mut_Text_good hb, Option.bind_some, toList_bs, toList_bs]
            unfold splicelaw04_MutApart.j4
            congr 1
            rw [beq_iff_eq, Bool.eq_iff_iff, hx, beq_iff_eq]
            exact ⟨txt_inj ha hb, fun h => by rw [h]⟩
          · rw [if_pos (by simp [hb])]
            exact out4
        · rw [if_neg ha, if_pos rfl]
          exact out4
      cases r with
      | true => rw [if_pos rfl, if_pos rfl]; exact fin true e2
      | false => rw [if_neg (by decide), if_neg (by decide)]; exact fin false e2
    · rw [decide_eq_false h']
      exact stop
  · rw [if_neg (by simpa using h)]
    exact stop

theorem readS_pairs {l : List UInt8} (h : l.length ≤ 5000) : (readS l).1.Pairs.length ≤ 5000 := by
  have e : ∀ (m : api_Mut) (s : Rd), (endM m s).1.Pairs.length ≤ 5000 := by
    intro m s
    unfold endM
    split
    · split
      · have := (mutIs ‹_›).len; simp only; omega
      · simp
    · simp
  unfold readS finM
  split
  · exact e _ _
  · split <;> exact e _ _
theorem splicelaw04_MutReads_true (a : ByteArray) : splicelaw04_MutReads a = some true := by
  unfold splicelaw04_MutReads
  by_cases h : (a.size : Int) > 5000
  · rw [if_pos h]
    exact out4
  · rw [if_neg h]
    have hs : a.data.toList.length ≤ 5000 := by
      have : a.data.toList.length = a.size := by rw [Array.length_toList]; rfl
      omega
    rw [← bs_eq a]
    generalize a.data.toList = l at hs
    have hp := readS_pairs hs
    rw [mut_Read_eq l hs, Option.bind_some, ref_Read_eq l hs, Option.bind_some, awake4, Option.bind_some, if_pos rfl, RefM_eq _ hp, Option.bind_some]
    obtain ⟨r, e1, e2⟩ := ref_Same_eq (trM (readS l).1) (trM (readS l).1) (by simp [trM]; omega)
    rw [e1, Option.bind_some, if_pos (e2.2 rfl)]
    simp [splicelaw04_MutReads.j1]
theorem read_bad {l : List UInt8} (h : (readS l).2 ≠ 0) : (readS l).1 = ⟨0, 0, 0, [], ⟨0, 0⟩, 0⟩ := by
  have e : ∀ (m : api_Mut) (s : Rd), (endM m s).2 ≠ 0 → (endM m s).1 = ⟨0, 0, 0, [], ⟨0, 0⟩, 0⟩ := by
    intro m s h
    unfold endM at h ⊢
    split
    · rename_i h1
      rw [if_pos h1] at h
      split
      · rename_i h2
        rw [if_pos h2] at h
        exact absurd rfl h
      · rfl
    · rfl
  unfold readS finM at h ⊢
  split
  · rename_i h1
    rw [if_pos h1] at h
    exact e _ _ h
  · rename_i h1
    rw [if_neg h1] at h
    split
    · rename_i h2
      rw [if_pos h2] at h
      exact e _ _ h
    · rename_i h2
      rw [if_neg h2] at h
      exact e _ _ h
theorem txt_len {m : api_Mut} (h : mOk m = true) : (txt m).length ≤ 5000 := by
  have hm := mutIs h
  have h1 := headT_len h hm
  have h2 := tailT_len hm
  have h3 := pairsT_len m.Pairs fun p hp => okP_key (hm.ok p hp)
  have := hm.len
  unfold txt
  simp only [List.length_append]
  omega
theorem splicelaw04_MutBack_true (a : api_Mut) (s : ByteArray) : splicelaw04_MutBack a s = some true := by
  unfold splicelaw04_MutBack
  simp only [few4]
  have stop : splicelaw04_MutBack.j1 a s true = some true := by
    unfold splicelaw04_MutBack.j1
    rw [if_pos rfl]
    exact out4
  by_cases h : a.Pairs.length ≤ 100
  · rw [if_pos (decide_eq_true h)]
    by_cases h' : (s.size : Int) > 5000
    · rw [decide_eq_true h']
      exact stop
    · rw [decide_eq_false h']
      have hs : s.data.toList.length ≤ 5000 := by
        have : s.data.toList.length = s.size := by rw [Array.length_toList]; rfl
        omega
      rw [← bs_eq s]
      generalize s.data.toList = l at hs
      have back : splicelaw04_MutBack.j3 (bs l) = some true := by
        unfold splicelaw04_MutBack.j3 splicelaw04_MutBack.j4
        rw [mut_Read_eq l hs, Option.bind_some, awake4, Option.bind_some, if_pos rfl]
        by_cases e0 : (readS l).2 = 0
        · obtain ⟨g1, g2⟩ := txt_read e0
          rw [if_pos e0, mut_Check_eq _ (readS_pairs hs), Option.bind_some, if_pos g1, mut_Text_good g1, Option.bind_some, g2, toList_bs]
          simp
        · rw [if_neg e0, RefM_eq _ (readS_pairs hs), Option.bind_some, read_bad e0]
          obtain ⟨r, e1, e2⟩ := ref_Same_eq (trM ⟨0, 0, 0, [], ⟨0, 0⟩, 0⟩) (⟨0, 0, 0, [], (⟨0, 0⟩ : spliceref03_Span), 0⟩ : spliceref04_Mut) (by simp [trM])
          rw [e1, Option.bind_some, if_pos (e2.2 rfl)]
      unfold splicelaw04_MutBack.j1
      rw [if_neg (by decide), mut_Check_eq a (by omega), Option.bind_some]
      by_cases ha : mOk a = true
      · rw [if_pos ha, mut_Text_good ha, Option.bind_some, mut_Read_eq _ (txt_len ha), Option.bind_some, read_txt ha, if_pos rfl]
        obtain ⟨r, e1, e2⟩ := mut_Same_eq a a (by omega)
        rw [e1, Option.bind_some, e2.2 rfl]
        unfold splicelaw04_MutBack.j2
        rw [if_neg (by decide)]
        exact back
      · rw [if_neg ha]
        exact back
  · rw [if_neg (by simpa using h)]
    exact stop
end Go.SyP
