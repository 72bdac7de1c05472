/- Mutations as text: both texts are the same bytes. -/
import Derived.Test.YtbhipajnkkjceaaP04R
import Derived.Test.YtbhipajnkkjceaaP04O
set_option linter.unusedVariables false
set_option linter.unusedSimpArgs false
namespace Go.SyP
open Go Go.Sy Sets

def pairT (p : api_Pair) : List UInt8 := numT p.Key ++ wholeT p.Val
def tailT (m : api_Mut) : List UInt8 := if m.Kind = 2 then numT m.Over.Lo ++ numT m.Over.Hi else if m.Kind = 4 then wholeT m.Old else []
def headT (m : api_Mut) : List UInt8 := numT m.Client ++ (numT m.Seq ++ (numT m.Kind ++ numT (m.Pairs.length : Int)))
def txt (m : api_Mut) : List UInt8 := headT m ++ (m.Pairs.flatMap pairT ++ tailT m)

theorem mk_nums {m : api_Mut} (h : mOk m = true) : (1 ≤ m.Client ∧ m.Client ≤ 1048576) ∧ (1 ≤ m.Seq ∧ m.Seq ≤ 1073741824) := by
  unfold mOk at h
  simp only [Bool.and_eq_true, decide_eq_true_eq] at h
  exact h.1
theorem pairT_len {p : api_Pair} (h : p.Key < 9223372036854775808) : (pairT p).length ≤ 20 := by
  unfold pairT
  rw [List.length_append]
  have := numT_len h
  have := wholeT_len p.Val
  omega
theorem pairsT_len : ∀ (l : List api_Pair), (∀ p ∈ l, p.Key < 9223372036854775808) → (l.flatMap pairT).length ≤ 20 * l.length
  | [], _ => by simp
  | p :: l, h => by
    have := pairsT_len l fun q hq => h q (List.mem_cons_of_mem _ hq)
    have := pairT_len (h p (List.mem_cons_self ..))
    simp only [List.flatMap_cons, List.length_append, List.length_cons]
    omega
theorem okP_key {x : api_Pair} (h : okP x) : x.Key < 9223372036854775808 := by have := h.2.1; omega
theorem take_flat (l : List api_Pair) {i : Nat} (hi : i < l.length) : (l.take (i + 1)).flatMap pairT = (l.take i).flatMap pairT ++ pairT (l.getD (i : Int).toNat api_Pair.z) := by
  rw [take_atI (z := api_Pair.z) hi, List.flatMap_append]
  simp

theorem headT_len {m : api_Mut} (h : mOk m = true) (hm : MutIs m) : (headT m).length ≤ 40 := by
  have hn := mk_nums h
  have hl := hm.len
  have hk := hm.kind
  have h1 := numT_len (v := m.Client) (by omega)
  have h2 := numT_len (v := m.Seq) (by omega)
  have h3 := numT_len (v := m.Kind) (by omega)
  have h4 := numT_len (v := (m.Pairs.length : Int)) (by omega)
  unfold headT
  simp only [List.length_append]
  omega
theorem tailT_len {m : api_Mut} (hm : MutIs m) : (tailT m).length ≤ 20 := by
  unfold tailT
  by_cases k2 : m.Kind = 2
  · have ho := hm.over k2
    unfold Ok pa at ho
    rw [if_pos k2, List.length_append]
    have h1 := numT_len (v := m.Over.Lo) (by simp only at ho; omega)
    have h2 := numT_len (v := m.Over.Hi) (by simp only at ho; omega)
    omega
  · rw [if_neg k2]
    split
    · have := wholeT_len m.Old; omega
    · simp

theorem mut_Text_good {m : api_Mut} (h : mOk m = true) : mut_Text m = some (bs (txt m)) := by
  have hm := mutIs h
  have hl := hm.len
  have hn := mk_nums h
  have hk := hm.kind
  have hh := headT_len h hm
  have ht := tailT_len hm
  have e1 := vint_Num_eq m.Client (by omega)
  have e2 := vint_Num_eq m.Seq (by omega)
  have e3 := vint_Num_eq m.Kind (by omega)
  have e4 := vint_Num_eq (m.Pairs.length : Int) (by omega)
  have hhl := hh
  unfold headT at hhl
  simp only [List.length_append] at hhl
  unfold mut_Text
  rw [mut_Check_eq m (by omega)]
  simp only [Option.bind_some, h, if_true, e1, e2, e3, e4, bs_nil, bs_append, bs_size, List.nil_append, List.length_nil, List.append_assoc, List.length_append]
  rw [if_pos (by omega), if_pos (by omega), if_pos (by omega), if_pos (by omega)]
  obtain ⟨r, h1, h2⟩ : ∃ r, goLoop (mut_Text.step m) (.l1 0 (bs (numT m.Client ++ (numT m.Seq ++ (numT m.Kind ++ numT (m.Pairs.length : Int)))))) = some r ∧ r = bs (txt m) := by
    refine for_post (n := m.Pairs.length) (fun i x => mut_Text.S.l1 (i : Int) x) (fun i x => x = bs (headT m ++ (m.Pairs.take i).flatMap pairT)) _ ?_ ?_ 0 _ (Nat.zero_le _) (by simp [headT])
    · rintro x rfl
      rw [take_all (Nat.le_refl _)]
      have hp := pairsT_len m.Pairs fun p hp => okP_key (hm.ok p hp)
      simp only [mut_Text.step, mut_Text.l1, mut_Text.j1, Int.lt_irrefl, if_false]
      by_cases k2 : m.Kind = 2
      · have ho := hm.over k2
        unfold Ok pa at ho
        simp only at ho
        rw [if_pos k2, vint_Num_eq m.Over.Lo (by omega), vint_Num_eq m.Over.Hi (by omega)]
        have h1 := numT_len (v := m.Over.Lo) (by omega)
        have h2 := numT_len (v := m.Over.Hi) (by omega)
        simp only [Option.bind_some, bs_append, bs_size, List.length_append]
        rw [if_pos (by omega), if_pos (by omega)]
        refine ⟨_, rfl, ?_⟩
        rw [txt, tailT, if_pos k2, List.append_assoc]
      · rw [if_neg k2]
        by_cases k4 : m.Kind = 4
        · rw [if_pos k4, vint_Whole_eq]
          have h1 := wholeT_len m.Old
          simp only [Option.bind_some, bs_append, bs_size, List.length_append]
          rw [if_pos (by omega)]
          refine ⟨_, rfl, ?_⟩
          rw [txt, tailT, if_neg k2, if_pos k4, List.append_assoc]
        · rw [if_neg k4]
          refine ⟨_, rfl, ?_⟩
          rw [txt, tailT, if_neg k2, if_neg k4, List.append_nil]
    · rintro i x hi rfl
      left
      have hstep : (0 : Int) ≤ (i : Int) ∧ (i : Int) < (m.Pairs.length : Int) := by omega
      have hok := hm.ok _ (getD_in5 (z := api_Pair.z) hi)
      have hp := pairsT_len (m.Pairs.take i) fun p hp => okP_key (hm.ok p (List.mem_of_mem_take hp))
      have hp1 := pairT_len (okP_key hok)
      rw [List.length_take] at hp
      have hx := take_flat m.Pairs hi
      simp only [mut_Text.step, mut_Text.l1, hstep.2, if_true, hstep, and_self, wr1 hi (by omega : m.Pairs.length ≤ 9223372036854775807)]
      rw [show (i : Int).toNat = i from rfl] at hx ⊢
      generalize m.Pairs.getD i api_Pair.z = X at hok hx hp1 ⊢
      rw [vint_Num_eq X.Key (okP_key hok), vint_Whole_eq]
      have h1 := numT_len (okP_key hok)
      have h2 := wholeT_len X.Val
      simp only [Option.bind_some, bs_append, bs_size, List.length_append]
      rw [if_pos (by omega), if_pos (by omega)]
      refine ⟨_, rfl, ?_⟩
      rw [hx, List.append_assoc]
      rfl
  rw [h1, h2]
theorem mut_Text_bad {m : api_Mut} (hn : m.Pairs.length ≤ 5000) (h : ¬ mOk m = true) : mut_Text m = some (bs []) := by
  unfold mut_Text
  rw [mut_Check_eq m hn, Option.bind_some, if_neg h]
  rfl
theorem mut_Text_eq (m : api_Mut) (hn : m.Pairs.length ≤ 5000) : mut_Text m = some (bs (if mOk m = true then txt m else [])) := by
  split
  · exact mut_Text_good ‹_›
  · exact mut_Text_bad hn ‹_›

theorem ref_Text_good {m : api_Mut} (h : mOk m = true) : spliceref04_Text (trM m) = some (bs (txt m)) := by
  have hm := mutIs h
  have hl := hm.len
  have hn := mk_nums h
  have hk := hm.kind
  have hh := headT_len h hm
  have ht := tailT_len hm
  have e1 := ref_Num_eq m.Client (by omega)
  have e2 := ref_Num_eq m.Seq (by omega)
  have e3 := ref_Num_eq m.Kind (by omega)
  have e4 := ref_Num_eq (m.Pairs.length : Int) (by omega)
  have hhl := hh
  unfold headT at hhl
  simp only [List.length_append] at hhl
  have q1 : (trM m).Client = m.Client := rfl
  have q2 : (trM m).Seq = m.Seq := rfl
  have q3 : (trM m).Kind = m.Kind := rfl
  have q4 : (trM m).Pairs = m.Pairs.map tr := rfl
  have q5 : (trM m).Over.Lo = m.Over.Lo := rfl
  have q6 : (trM m).Over.Hi = m.Over.Hi := rfl
  have q7 : (trM m).Old = m.Old := rfl
  unfold spliceref04_Text
  rw [ref_Check_eq m (by omega)]
  simp only [q1, q2, q3, q4, List.length_map, Option.bind_some, h, if_true, e1, e2, e3, e4, bs_nil, bs_append, bs_size, List.nil_append, List.length_nil, List.append_assoc, List.length_append]
  rw [if_pos (by omega), if_pos (by omega), if_pos (by omega)]
  obtain ⟨r, h1, h2⟩ : ∃ r, goLoop (spliceref04_Text.step (trM m)) (.l1 (bs (numT m.Client ++ (numT m.Seq ++ (numT m.Kind ++ numT (m.Pairs.length : Int))))) 0) = some r ∧ r = bs (txt m) := by
    refine for_post (n := m.Pairs.length) (fun i x => spliceref04_Text.S.l1 x (i : Int)) (fun i x => x = bs (headT m ++ (m.Pairs.take i).flatMap pairT)) _ ?_ ?_ 0 _ (Nat.zero_le _) (by simp [headT])
    · rintro x rfl
      rw [take_all (Nat.le_refl _)]
      have hp := pairsT_len m.Pairs fun p hp => okP_key (hm.ok p hp)
      simp only [spliceref04_Text.step, spliceref04_Text.l1, spliceref04_Text.j1, spliceref04_Text.j2, q3, q4, q5, q6, q7, List.length_map, Int.lt_irrefl, if_false]
      by_cases k2 : m.Kind = 2
      · have ho := hm.over k2
        unfold Ok pa at ho
        simp only at ho
        rw [if_pos k2, ref_Num_eq m.Over.Lo (by omega), ref_Num_eq m.Over.Hi (by omega)]
        have h1 := numT_len (v := m.Over.Lo) (by omega)
        have h2 := numT_len (v := m.Over.Hi) (by omega)
        simp only [Option.bind_some, bs_append, bs_size, List.length_append]
        rw [if_pos (by omega), if_pos (by omega), if_neg (by omega)]
        refine ⟨_, rfl, ?_⟩
        rw [txt, tailT, if_pos k2]
        simp only [List.append_assoc]
      · rw [if_neg k2]
        by_cases k4 : m.Kind = 4
        · rw [if_pos k4, ref_Whole_eq]
          have h1 := wholeT_len m.Old
          simp only [Option.bind_some, bs_append, bs_size, List.length_append]
          rw [if_pos (by omega)]
          refine ⟨_, rfl, ?_⟩
          rw [txt, tailT, if_neg k2, if_pos k4, List.append_assoc]
        · rw [if_neg k4]
          refine ⟨_, rfl, ?_⟩
          rw [txt, tailT, if_neg k2, if_neg k4, List.append_nil]
    · rintro i x hi rfl
      left
      have hstep : (0 : Int) ≤ (i : Int) ∧ (i : Int) < (m.Pairs.length : Int) := by omega
      have hok := hm.ok _ (getD_in5 (z := api_Pair.z) hi)
      have hp := pairsT_len (m.Pairs.take i) fun p hp => okP_key (hm.ok p (List.mem_of_mem_take hp))
      have hp1 := pairT_len (okP_key hok)
      rw [List.length_take] at hp
      have hx := take_flat m.Pairs hi
      have ht := tr_at m.Pairs hi
      simp only [spliceref04_Text.step, spliceref04_Text.l1, q4, List.length_map, hstep.2, if_true, hstep, and_self, wr1 hi (by omega : m.Pairs.length ≤ 9223372036854775807)]
      rw [ht]
      rw [show (i : Int).toNat = i from rfl] at *
      generalize m.Pairs.getD i api_Pair.z = X at hok hx hp1 ⊢
      have r1 : (tr X).Key = X.Key := rfl
      have r2 : (tr X).Val = X.Val := rfl
      rw [r1, r2, ref_Num_eq X.Key (okP_key hok), ref_Whole_eq]
      have h1 := numT_len (okP_key hok)
      have h2 := wholeT_len X.Val
      simp only [Option.bind_some, bs_append, bs_size, List.length_append]
      rw [if_pos (by omega), if_pos (by omega)]
      refine ⟨_, rfl, ?_⟩
      rw [hx]
      simp only [List.append_assoc, pairT]
  rw [h1, h2]
theorem ref_Text_eq (m : api_Mut) (hn : m.Pairs.length ≤ 5000) : spliceref04_Text (trM m) = some (bs (if mOk m = true then txt m else [])) := by
  split
  · exact ref_Text_good ‹_›
  · unfold spliceref04_Text
    rw [ref_Check_eq m hn, Option.bind_some, if_neg ‹_›]
    rfl
end Go.SyP
