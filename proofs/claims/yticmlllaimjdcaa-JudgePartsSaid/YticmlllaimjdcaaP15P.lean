/- A fold on two sets that have no key in common. -/
import Derived.Test.YticmlllaimjdcaaP15O
set_option linter.unusedVariables false
set_option linter.unusedSimpArgs false
namespace Go.SyP
open Go Go.Sy Sets

/-- What mutations make of the cell of one key. -/
def cellF (ms : List api_Mut) (k : Int) (c : Option Int) : Option Int := ms.foldl (fun c m => if touB m k = true then cellN m k c else c) c
theorem look_foldM {on : List api_Span} (ho : on.length ≤ 5000) (hs : SOk on) (k : Int) : ∀ {ms : List api_Mut} {t : List api_Pair}, Tb t → (∀ m ∈ ms, mOk m = true) → t.length + 8 * ms.length ≤ 1000 →
    look (foldM on t ms) k = if hasB on k = true then cellF ms k (look t k) else look t k
  | [], t, _, _, _ => by simp [foldM, cellF]
  | m :: ms, t, ht, hm, hl => by
    simp only [List.length_cons] at hl
    have a := apD_spec (on := on) (t := t) (m := m) (by omega) ho ht (hm m (List.mem_cons_self ..)) hs
    have ih := look_foldM ho hs k (ms := ms) a.tb (fun x hx => hm x (List.mem_cons_of_mem _ hx)) (by have := a.len; omega)
    have e : foldM on t (m :: ms) = foldM on (apD on t m).1 ms := rfl
    rw [e, ih, look_ap a.to (mutIs (hm m (List.mem_cons_self ..)))]
    by_cases h : hasB on k = true
    · by_cases h2 : touB m k = true <;> simp [h, h2, cellF]
    · simp [h]
theorem sel_ok {l : List api_Entry} (hok : okE l = true) (mark : Int) : ∀ m ∈ sel mark l, mOk m = true := by
  intro m hm
  obtain ⟨e, he, rfl⟩ := List.mem_map.1 hm
  exact List.all_eq_true.1 hok e (List.mem_filter.1 he).1
theorem sel_len (l : List api_Entry) (mark : Int) : (sel mark l).length ≤ l.length := by
  unfold sel
  rw [List.length_map]
  exact List.length_filter_le _ _
theorem look_nilT (k : Int) : look [] k = none := rfl

theorem splicelaw15_JudgeParts_true (l : List api_Entry) (on : List api_Span) (mark : Int) {p0 q1 p2 : Prop} (w0 : p0) (w1 : on.length ≤ maxLen ∧ q1) (w2 : p2) : splicelaw15_JudgeParts l on mark = some true := by
  obtain ⟨off, z1, z2⟩ := off_spec (on := on) w1.1
  obtain ⟨r, c1, c2⟩ := few15 l
  have j1t : splicelaw15_JudgeParts.j1 l on mark off true = some true := by
    unfold splicelaw15_JudgeParts.j1
    rw [if_pos rfl]
    exact out15
  unfold splicelaw15_JudgeParts
  rw [z1, Option.bind_some, c1, Option.bind_some]
  cases hr : r with
  | false => exact j1t
  | true =>
    have hf := c2 hr
    have hl := hf.len
    rw [if_pos rfl]
    by_cases ho : (on.length : Int) > 60
    · rw [if_pos ho]
      exact j1t
    · rw [if_neg ho]
      by_cases he : off.2 = 0
      · rw [neF he]
        obtain ⟨hs, hso, hoff⟩ := z2 he
        have ho : on.length ≤ 5000 := by omega
        have hoo : off.1.length ≤ 5000 := by have := hso.2; omega
        unfold splicelaw15_JudgeParts.j1
        rw [if_neg (by decide)]
        obtain ⟨r, e1, e2⟩ : ∃ r, goLoop (splicelaw15_JudgeParts.step l on mark off) (.l1 0) = some r ∧ r = true := by
          refine for_post (n := l.length) (fun i (_ : Unit) => splicelaw15_JudgeParts.S.l1 (i : Int)) (fun i _ => okE (l.take i) = true) _ ?_ ?_ 0 () (Nat.zero_le _) rfl
          · intro _ hok
            rw [take_all (Nat.le_refl _)] at hok
            refine ⟨true, ?_, rfl⟩
            simp only [splicelaw15_JudgeParts.step, splicelaw15_JudgeParts.l1, Int.lt_irrefl, if_false]
            have hsl := sel_len l mark
            have hall := allS_ok
            rw [Fold_good mark hf ho hs hok, Option.bind_some, Fold_good mark hf hoo hso hok, Option.bind_some, Fold_good mark hf (by simp) (show SOk [⟨0, 4096⟩] from allS_ok) hok, Option.bind_some]
            have qA := foldM_ok ho hs (ms := sel mark l) Tb.nil (sel_ok hok mark) (by simp; omega)
            have qB := foldM_ok hoo hso (ms := sel mark l) Tb.nil (sel_ok hok mark) (by simp; omega)
            have qC := foldM_ok (on := [⟨0, 4096⟩]) (by simp) allS_ok (ms := sel mark l) Tb.nil (sel_ok hok mark) (by simp; omega)
            have lA := fun k => look_foldM ho hs k (ms := sel mark l) Tb.nil (sel_ok hok mark) (by simp; omega)
            have lB := fun k => look_foldM hoo hso k (ms := sel mark l) Tb.nil (sel_ok hok mark) (by simp; omega)
            have lC := fun k => look_foldM (on := [⟨0, 4096⟩]) (by simp) allS_ok k (ms := sel mark l) Tb.nil (sel_ok hok mark) (by simp; omega)
            simp only [look_nilT] at lA lB lC
            simp only [List.length_nil, Nat.zero_add] at qA qB qC
            generalize foldM on [] (sel mark l) = A at qA lA ⊢
            generalize foldM off.1 [] (sel mark l) = B at qB lB ⊢
            generalize foldM [⟨0, 4096⟩] [] (sel mark l) = C at qC lC ⊢
            obtain ⟨J, e1, e2⟩ := table_Join_eq (a := A) (b := B) (by omega) (by omega) qA.1 qB.1
            have hJ : J = (C, 0) := e2.unique (.ok qC.1 (fun k => by
              rw [lA, lB, lC, hoff]
              by_cases h1 : hasB on k = true
              · have hm := hs.1.bound ((hasB_mem hs k).1 h1)
                have hA : hasB [⟨0, 4096⟩] k = true := hasB_all hm
                rw [if_pos h1, if_pos hA, if_neg (by simp [h1])]
                cases cellF (sel mark l) k none <;> rfl
              · by_cases hr : 0 ≤ k ∧ k < 4096
                · rw [if_neg h1, if_pos (show hasB [⟨0, 4096⟩] k = true from hasB_all hr), if_pos (by simp [h1, hr])]
                  rfl
                · have hno : ¬ hasB [⟨0, 4096⟩] k = true := fun h => hr (allS_ok.1.bound ((hasB_mem allS_ok k).1 h))
                  rw [if_neg h1, if_neg hno, if_neg (by simp [hr])]
                  rfl) fun k => by
              rw [lA, lB, hoff]
              by_cases h1 : hasB on k = true
              · right; simp [h1]
              · left; simp [h1])
            have hclip : clip C on = A := (clip_tb qC.1 on).up.unique qA.1.up fun k => by
              rw [look_clip, lA, lC]
              by_cases h1 : hasB on k = true
              · have hm := hs.1.bound ((hasB_mem hs k).1 h1)
                rw [if_pos h1, if_pos h1, if_pos (show hasB [⟨0, 4096⟩] k = true from hasB_all hm)]
              · rw [if_neg h1, if_neg h1]
            obtain ⟨s, c5, c6⟩ := chkSR on ho
            rw [e1, Option.bind_some, awake15, Option.bind_some, if_pos rfl, hJ]
            simp only [if_true]
            rw [Refs5_eq C (by omega), Option.bind_some, Option.bind_some, same5_refl C (by omega), Option.bind_some, if_pos rfl, Clip_good (by omega) ho qC.1 hs, Option.bind_some, hclip, Refs5_eq A (by omega), Option.bind_some, Option.bind_some, same5_refl A (by omega), Option.bind_some, if_pos rfl, Refs_eq on ho, Option.bind_some, c5, Option.bind_some, c6.2 hs]
            rfl
          · intro i _ hi hok
            have hstep : (0 : Int) ≤ (i : Int) ∧ (i : Int) < (l.length : Int) := by omega
            have hx := take_at (l := l) (z := api_Entry.z) hi
            have hp := hf.prs _ (getD_in (z := api_Entry.z) hi)
            simp only [splicelaw15_JudgeParts.step, splicelaw15_JudgeParts.l1, hstep.2, if_true, hstep, and_self, show (i : Int).toNat = i from rfl, RefM_eq _ (by omega : (l.getD i api_Entry.z).M.Pairs.length ≤ 5000), Option.bind_some, ref_Check_eq _ (by omega : (l.getD i api_Entry.z).M.Pairs.length ≤ 5000), wr1 hi (by omega : l.length ≤ 9223372036854775807)]
            by_cases hm : mOk (l.getD i api_Entry.z).M = true
            · left
              rw [if_pos hm]
              refine ⟨(), rfl, ?_⟩
              rw [hx]
              unfold okE at hok ⊢
              rw [List.all_append, hok]
              simp only [List.all_cons, List.all_nil, Bool.and_true, Bool.true_and]
              exact hm
            · right
              rw [if_neg hm]
              have hbad : ¬ (SOk [⟨0, 4096⟩] ∧ okE l = true) := fun h => hm (List.all_eq_true.1 h.2 _ (getD_in (z := api_Entry.z) hi))
              rw [awake15, Option.bind_some, if_pos rfl, Fold_bad mark hf (by simp) hbad]
              exact ⟨true, rfl, rfl⟩
        rw [e1, e2]
      · rw [neT he]
        exact j1t
end Go.SyP
