/- Tables, written and read. -/
import Derived.Test.YtijabmambppfhaaP05bV
import Derived.Test.YtijabmambppfhaaP05bH
set_option linter.unusedVariables false
set_option linter.unusedSimpArgs false
namespace Go.SyP
open Go Go.Sy Sets

noncomputable def tbB (l : List api_Pair) : Bool := @decide (Tb l) (Classical.propDecidable _)
theorem tbB_iff {l : List api_Pair} : tbB l = true ↔ Tb l := by unfold tbB; exact @decide_eq_true_iff _ (Classical.propDecidable _)
theorem check_eq (l : List api_Pair) (hn : l.length ≤ 5000) : table_Check l = some (tbB l) := by
  obtain ⟨r, h1, h2⟩ := table_Check_eq l (by omega)
  rw [h1]
  congr 1
  rw [Bool.eq_iff_iff, h2, tbB_iff]
theorem rcheck_eq (l : List api_Pair) (hn : l.length ≤ 5000) : spliceref05_Check (l.map tr) = some (tbB l) := by
  obtain ⟨r, h1, h2⟩ := ref5_Check_eq l (by omega)
  rw [h1]
  congr 1
  rw [Bool.eq_iff_iff, h2, tbB_iff]

def ttxt (l : List api_Pair) : List UInt8 := numT (l.length : Int) ++ l.flatMap pairT
theorem tb_keys {l : List api_Pair} (h : Tb l) : ∀ p ∈ l, p.Key < 9223372036854775808 := fun p hp => okP_key (h.ok p hp)
theorem ttxt_len {l : List api_Pair} (h : Tb l) (hn : l.length ≤ 200) : (ttxt l).length ≤ 5000 := by
  have h1 := pairsT_len l (tb_keys h)
  have h2 := numT_len (v := (l.length : Int)) (by omega)
  unfold ttxt
  rw [List.length_append]
  omega
theorem Text_eq (l : List api_Pair) (hn : l.length ≤ 5000) : table_Text l = some (bs (if tbB l = true then ttxt l else [])) := by
  unfold table_Text
  rw [check_eq l hn, Option.bind_some]
  by_cases h : tbB l = true
  · rw [if_pos h, if_pos h, vint_Num_eq _ (by omega), Option.bind_some]
    have ht := tbB_iff.1 h
    have h2 := numT_len (v := (l.length : Int)) (by omega)
    simp only [bs_nil, bs_append, bs_size, List.nil_append, List.length_nil]
    rw [if_pos (by omega)]
    obtain ⟨r, e1, e2⟩ : ∃ r, goLoop (table_Text.step l) (.l1 0 (bs (numT (l.length : Int)))) = some r ∧ r = bs (ttxt l) := by
      refine for_post (n := l.length) (fun i x => table_Text.S.l1 (i : Int) x) (fun i x => x = bs (numT (l.length : Int) ++ (l.take i).flatMap pairT)) _ ?_ ?_ 0 _ (Nat.zero_le _) (by simp)
      · rintro x rfl
        rw [take_all (Nat.le_refl _)]
        simp only [table_Text.step, table_Text.l1, Int.lt_irrefl, if_false]
        exact ⟨_, rfl, rfl⟩
      · rintro i x hi rfl
        left
        have hstep : (0 : Int) ≤ (i : Int) ∧ (i : Int) < (l.length : Int) := by omega
        have hok := okP_key (ht.ok _ (getD_in5 (z := api_Pair.z) hi))
        have hp := pairsT_len (l.take i) fun p hp => tb_keys ht p (List.mem_of_mem_take hp)
        rw [List.length_take] at hp
        have hx := take_flat l hi
        simp only [table_Text.step, table_Text.l1, hstep.2, if_true, hstep, and_self, wr1 hi (by omega : l.length ≤ 9223372036854775807)]
        rw [show (i : Int).toNat = i from rfl] at hx ⊢
        generalize l.getD i api_Pair.z = X at hok hx ⊢
        rw [vint_Num_eq X.Key hok, vint_Whole_eq]
        have h1 := numT_len hok
        have h3 := wholeT_len X.Val
        simp only [Option.bind_some, bs_append, bs_size, List.length_append]
        rw [if_pos (by omega), if_pos (by omega)]
        refine ⟨_, rfl, ?_⟩
        rw [hx, List.append_assoc]
        rfl
    rw [e1, e2]
  · rw [if_neg h, if_neg h]
    rfl
theorem rText_eq (l : List api_Pair) (hn : l.length ≤ 5000) : spliceref05_Text (l.map tr) = some (bs (if tbB l = true then ttxt l else [])) := by
  unfold spliceref05_Text
  rw [rcheck_eq l hn, Option.bind_some]
  by_cases h : tbB l = true
  · rw [if_pos h, if_pos h, List.length_map, ref_Num_eq _ (by omega), Option.bind_some]
    have ht := tbB_iff.1 h
    have h2 := numT_len (v := (l.length : Int)) (by omega)
    obtain ⟨r, e1, e2⟩ : ∃ r, goLoop (spliceref05_Text.step (l.map tr)) (.l1 (bs (numT (l.length : Int))) 0) = some r ∧ r = bs (ttxt l) := by
      refine for_post (n := l.length) (fun i x => spliceref05_Text.S.l1 x (i : Int)) (fun i x => x = bs (numT (l.length : Int) ++ (l.take i).flatMap pairT)) _ ?_ ?_ 0 _ (Nat.zero_le _) (by simp)
      · rintro x rfl
        rw [take_all (Nat.le_refl _)]
        simp only [spliceref05_Text.step, spliceref05_Text.l1, List.length_map, Int.lt_irrefl, if_false]
        exact ⟨_, rfl, rfl⟩
      · rintro i x hi rfl
        left
        have hstep : (0 : Int) ≤ (i : Int) ∧ (i : Int) < (l.length : Int) := by omega
        have hok := okP_key (ht.ok _ (getD_in5 (z := api_Pair.z) hi))
        have hp := pairsT_len (l.take i) fun p hp => tb_keys ht p (List.mem_of_mem_take hp)
        rw [List.length_take] at hp
        have hx := take_flat l hi
        have hq := tr_at l hi
        simp only [spliceref05_Text.step, spliceref05_Text.l1, List.length_map, hstep.2, if_true, hstep, and_self, wr1 hi (by omega : l.length ≤ 9223372036854775807)]
        rw [hq]
        rw [show (i : Int).toNat = i from rfl] at *
        generalize l.getD i api_Pair.z = X at hok hx ⊢
        have r1 : (tr X).Key = X.Key := rfl
        have r2 : (tr X).Val = X.Val := rfl
        rw [r1, r2, ref_Num_eq X.Key hok, ref_Whole_eq]
        have h1 := numT_len hok
        have h3 := wholeT_len X.Val
        simp only [Option.bind_some, bs_append, bs_size, List.length_append]
        rw [if_pos (by omega), if_pos (by omega)]
        refine ⟨_, rfl, ?_⟩
        rw [hx]
        simp only [List.append_assoc, pairT]
    rw [e1, e2]
  · rw [if_neg h, if_neg h]
    rfl

/-! ### How a table is read -/
noncomputable def endT (x : List api_Pair × Rd) : List api_Pair × Int := if rdEnd x.2 = 0 then (if tbB x.1 = true then (x.1, 0) else ([], 3)) else ([], rdEnd x.2)
noncomputable def readT (l : List UInt8) : List api_Pair × Int := endT (rdP (l.length + 2) (rdN (l, 0)).1 [] (rdN (l, 0)).2)
theorem endT_vint (x : List api_Pair × Rd) (hn : x.1.length ≤ 5000) (i : Int) : table_Read.j1 i (bs x.2.1) x.2.2 x.1 false = some (.inr (endT x)) := by
  unfold table_Read.j1 endT
  have e : vint_Reader_End ⟨bs x.2.1, x.2.2⟩ = rdEnd x.2 := rdEnd_vint x.2
  rw [if_neg (by decide), e]
  by_cases h : rdEnd x.2 = 0
  · rw [if_pos h, if_pos h, check_eq _ hn, Option.bind_some]
    by_cases hk : tbB x.1 = true
    · rw [if_pos hk, if_pos hk]
    · rw [if_neg hk, if_neg hk]
  · rw [if_neg h, if_neg h]
theorem endT_ref (x : List api_Pair × Rd) (hn : x.1.length ≤ 5000) (i : Int) : spliceref05_Read.j1 i (bs x.2.1) x.2.2 (x.1.map tr) false = some (.inr ((endT x).1.map tr, (endT x).2)) := by
  unfold spliceref05_Read.j1 endT
  have e : spliceref01_Reader_End ⟨bs x.2.1, x.2.2⟩ = rdEnd x.2 := rdEnd_ref x.2
  simp only [e, bnd]
  rw [if_neg (by decide)]
  by_cases h : rdEnd x.2 = 0
  · rw [if_pos h, if_pos h, rcheck_eq _ hn, Option.bind_some]
    by_cases hk : tbB x.1 = true
    · rw [if_pos hk, if_pos hk]
    · rw [if_neg hk, if_neg hk]; rfl
  · rw [if_neg h, if_neg h]; rfl

theorem pairs_vint (v2 : Int × vint_Reader) (h5 : v2.1 < 9223372036854775808) : ∀ (f i : Nat) (acc : List api_Pair) (s : Rd), (s.2 = 0 → s.1.length + 2 ≤ f) → 1 ≤ f → (i : Int) ≤ max v2.1 0 → (s.2 = 0 → 2 * acc.length + s.1.length ≤ 5000) → 2 * acc.length + s.1.length ≤ 5002 →
    (s.2 = 0 ∨ s.1 = []) → goLoop (table_Read.step v2) (.l1 (i : Int) (bs s.1) s.2 acc) = some (endT (rdP f (v2.1 - i) acc s))
  | 0, _, _, _, _, h, _, _, _, _ => by omega
  | f + 1, i, acc, s, hf, _, hi, hl0, hl, he => by
    rw [loop_eq]
    simp only [table_Read.step, table_Read.l1, vint_Reader_Err]
    have out : stk (table_Read.j1 (i : Int) (bs s.1) s.2 acc false) (goLoop (table_Read.step v2)) = some (endT (acc, s)) := by
      rw [endT_vint (acc, s) (by simp only; omega)]
      rfl
    rw [rdP]
    by_cases hc : (i : Int) < v2.1
    · rw [if_pos hc]
      by_cases h0 : s.2 = 0
      · rw [if_pos (show 0 < v2.1 - (i : Int) ∧ s.2 = 0 from ⟨by omega, h0⟩), show (s.2 == 0) = true by rw [h0]; rfl]
        have e : (⟨bs s.1, s.2⟩ : vint_Reader) = toV s := rfl
        have hl1 := rdN_len s
        have hl2 := rdW_len (rdN s).2
        have nf := next_fuel h0 (hf h0)
        unfold table_Read.j1
        rw [if_pos rfl, e, rdN_vint s (by omega), Option.bind_some]
        simp only
        rw [rdW_vint (rdN s).2 (by omega), Option.bind_some, if_pos (by omega)]
        simp only [stk]
        rw [wr (by omega), show (i : Int) + 1 = ((i + 1 : Nat) : Int) by omega]
        have hless : (rdW (rdN s).2).2.2 = 0 → (rdW (rdN s).2).2.1.length + 2 ≤ s.1.length := fun h => by
          have h1 := (num_rdN (s := (rdN s).2) h).1
          have h2 := rdN_less s h1
          have h3 : (rdW (rdN s).2).2.1.length < (rdN s).2.1.length := rdN_less (rdN s).2 h
          omega
        have he' : (rdW (rdN s).2).2.2 = 0 ∨ (rdW (rdN s).2).2.1 = [] := nil_next (nil_next he)
        have ih := pairs_vint v2 h5 f (i + 1) (acc ++ [⟨(rdN s).1, (rdW (rdN s).2).1⟩]) (rdW (rdN s).2).2 nf.1 nf.2 (by omega) (fun h => by
          rw [List.length_append, List.length_singleton]
          have := hless h
          have := hl0 h0
          omega) (by
          rw [List.length_append, List.length_singleton]
          have := hl0 h0
          rcases he' with h | h
          · have := hless h; omega
          · rw [h]
            simp only [List.length_nil]
            omega) he'
        rw [show v2.1 - (((i + 1 : Nat)) : Int) = v2.1 - (i : Int) - 1 by omega] at ih
        exact ih
      · rw [if_neg (fun h => h0 h.2), show (s.2 == 0) = false by rw [beq_eq_false_iff_ne]; exact h0]
        exact out
    · rw [if_neg hc, if_neg (fun h => hc (by omega))]
      exact out
theorem Read_eq (l : List UInt8) (hn : l.length ≤ 5000) : table_Read (bs l) = some (readT l) := by
  unfold table_Read vint_From
  simp only [bnd]
  have e : (⟨bs l, 0⟩ : vint_Reader) = toV (l, 0) := rfl
  have l1 := rdN_len (l, 0)
  simp only at l1
  rw [e, rdN_vint (l, 0) (by simp only; omega), Option.bind_some]
  have hb := rdN_bound (l, 0)
  have := pairs_vint ((rdN (l, 0)).1, toV (rdN (l, 0)).2) hb.2 (l.length + 2) 0 [] (rdN (l, 0)).2 (fun _ => by omega) (by omega) (by simp only; omega) (fun _ => by simp only [List.length_nil]; omega) (by simp only [List.length_nil]; omega)
    (nil_next (.inl rfl))
  rw [show ((0 : Nat) : Int) = 0 from rfl] at this
  simp only [Int.sub_zero] at this
  exact this
theorem pairs_ref (v1 : spliceref01_Reader × Int) (h5 : v1.2 < 9223372036854775808) : ∀ (f i : Nat) (acc : List api_Pair) (s : Rd), (s.2 = 0 → s.1.length + 2 ≤ f) → 1 ≤ f → (i : Int) ≤ max v1.2 0 → (s.2 = 0 → 2 * acc.length + s.1.length ≤ 5000) → 2 * acc.length + s.1.length ≤ 5002 →
    (s.2 = 0 ∨ s.1 = []) → goLoop (spliceref05_Read.step v1) (.l1 (i : Int) (bs s.1) s.2 (acc.map tr)) = some ((endT (rdP f (v1.2 - i) acc s)).1.map tr, (endT (rdP f (v1.2 - i) acc s)).2)
  | 0, _, _, _, _, h, _, _, _, _ => by omega
  | f + 1, i, acc, s, hf, _, hi, hl0, hl, he => by
    rw [loop_eq]
    simp only [spliceref05_Read.step, spliceref05_Read.l1]
    have out : stk (spliceref05_Read.j1 (i : Int) (bs s.1) s.2 (acc.map tr) false) (goLoop (spliceref05_Read.step v1)) = some ((endT (acc, s)).1.map tr, (endT (acc, s)).2) := by
      rw [endT_ref (acc, s) (by simp only; omega)]
      rfl
    rw [rdP]
    by_cases hc : (i : Int) < v1.2
    · rw [if_pos hc]
      by_cases h0 : s.2 = 0
      · rw [if_pos (show 0 < v1.2 - (i : Int) ∧ s.2 = 0 from ⟨by omega, h0⟩), show (s.2 == 0) = true by rw [h0]; rfl]
        have e : (⟨bs s.1, s.2⟩ : spliceref01_Reader) = toD s := rfl
        have hl1 := rdN_len s
        have hl2 := rdW_len (rdN s).2
        have nf := next_fuel h0 (hf h0)
        unfold spliceref05_Read.j1
        rw [if_pos rfl, e, rdN_ref s (by omega), Option.bind_some]
        simp only
        rw [rdW_ref (rdN s).2 (by omega), Option.bind_some, if_pos (by rw [List.length_map]; omega)]
        simp only [stk]
        rw [wr (by omega), show (i : Int) + 1 = ((i + 1 : Nat) : Int) by omega]
        have hless : (rdW (rdN s).2).2.2 = 0 → (rdW (rdN s).2).2.1.length + 2 ≤ s.1.length := fun h => by
          have h1 := (num_rdN (s := (rdN s).2) h).1
          have h2 := rdN_less s h1
          have h3 : (rdW (rdN s).2).2.1.length < (rdN s).2.1.length := rdN_less (rdN s).2 h
          omega
        have he' : (rdW (rdN s).2).2.2 = 0 ∨ (rdW (rdN s).2).2.1 = [] := nil_next (nil_next he)
        have ih := pairs_ref v1 h5 f (i + 1) (acc ++ [⟨(rdN s).1, (rdW (rdN s).2).1⟩]) (rdW (rdN s).2).2 nf.1 nf.2 (by omega) (fun h => by
          rw [List.length_append, List.length_singleton]
          have := hless h
          have := hl0 h0
          omega) (by
          rw [List.length_append, List.length_singleton]
          have := hl0 h0
          rcases he' with h | h
          · have := hless h; omega
          · rw [h]
            simp only [List.length_nil]
            omega) he'
        rw [show v1.2 - (((i + 1 : Nat)) : Int) = v1.2 - (i : Int) - 1 by omega] at ih
        rw [List.map_append] at ih
        exact ih
      · rw [if_neg (fun h => h0 h.2), show (s.2 == 0) = false by rw [beq_eq_false_iff_ne]; exact h0]
        exact out
    · rw [if_neg hc, if_neg (fun h => hc (by omega))]
      exact out
theorem rRead_eq (l : List UInt8) (hn : l.length ≤ 5000) : spliceref05_Read (bs l) = some ((readT l).1.map tr, (readT l).2) := by
  unfold spliceref05_Read
  have e : (⟨bs l, 0⟩ : spliceref01_Reader) = toD (l, 0) := rfl
  have l1 := rdN_len (l, 0)
  simp only at l1
  rw [e, rdN_ref (l, 0) (by simp only; omega), Option.bind_some]
  have hb := rdN_bound (l, 0)
  have := pairs_ref (toD (rdN (l, 0)).2, (rdN (l, 0)).1) hb.2 (l.length + 2) 0 [] (rdN (l, 0)).2 (fun _ => by omega) (by omega) (by simp only; omega) (fun _ => by simp only [List.length_nil]; omega) (by simp only [List.length_nil]; omega)
    (nil_next (.inl rfl))
  rw [show ((0 : Nat) : Int) = 0 from rfl] at this
  simp only [Int.sub_zero] at this
  exact this

theorem read_ttxt {l : List api_Pair} (h : Tb l) (hn : l.length ≤ 5000) : readT (ttxt l) = (l, 0) := by
  unfold readT
  have e1 : rdN (ttxt l, 0) = ((l.length : Int), (l.flatMap pairT, 0)) := by
    unfold ttxt
    rw [rdN_num (by omega) (by omega)]
  rw [e1]
  simp only
  have hlen : l.length < (ttxt l).length + 2 := by
    have := pairsT_ge l fun p hp => (h.ok p hp).1
    unfold ttxt
    simp only [List.length_append]
    omega
  have := rdP_pairs l ((ttxt l).length + 2) [] [] h.ok hlen
  rw [List.append_nil] at this
  rw [this, List.nil_append]
  unfold endT rdEnd
  simp [tbB_iff.2 h]
theorem endT_ok {x : List api_Pair × Rd} (h : (endT x).2 = 0) : endT x = (x.1, 0) ∧ Tb x.1 ∧ x.2 = ([], 0) := by
  obtain ⟨ps, s⟩ := x
  unfold endT at h ⊢
  simp only at h ⊢
  by_cases h1 : rdEnd s = 0
  · rw [if_pos h1] at h ⊢
    by_cases h2 : tbB ps = true
    · rw [if_pos h2]
      refine ⟨rfl, tbB_iff.1 h2, ?_⟩
      obtain ⟨l, e⟩ := s
      unfold rdEnd at h1
      simp only at h1
      split at h1
      · rename_i h3
        split at h1
        · rename_i h4; rw [h3, h4]
        · omega
      · rename_i h3; exact absurd h1 h3
    · rw [if_neg h2] at h; simp at h
  · rw [if_neg h1] at h; exact absurd h h1
theorem ttxt_read {l : List UInt8} (h : (readT l).2 = 0) : Tb (readT l).1 ∧ ttxt (readT l).1 = l := by
  unfold readT at h ⊢
  have hb := rdN_bound (l, 0)
  have l1 := rdN_len (l, 0)
  simp only at l1
  have back := rdP_back (l.length + 2) (rdN (l, 0)).1 [] (rdN (l, 0)).2 (fun _ => by omega) (by omega) hb.1
  generalize rdP (l.length + 2) (rdN (l, 0)).1 [] (rdN (l, 0)).2 = x at h back ⊢
  obtain ⟨e1, e2, e3⟩ := endT_ok h
  rw [e1]
  refine ⟨e2, ?_⟩
  obtain ⟨b0, L, b1, b2, b3⟩ := back (by rw [e3])
  obtain ⟨n1, q1⟩ := num_rdN b0
  rw [List.nil_append] at b1
  rw [e3, List.append_nil] at b3
  simp only at q1
  unfold ttxt
  simp only
  rw [b1, b2, ← b3, ← q1]
theorem readT_len (l : List UInt8) : (readT l).1.length ≤ 4096 := by
  unfold readT endT
  split
  · split
    · rename_i h
      have ht := tbB_iff.1 h
      have : ∀ (m : List api_Pair), Up m → (∀ x ∈ m, 0 ≤ x.Key ∧ x.Key < 4096) → m.length ≤ 4096 := by
        have gen : ∀ (m : List api_Pair) (lo : Int), Up m → (∀ x ∈ m, lo ≤ x.Key ∧ x.Key < 4096) → lo ≤ 4096 → (m.length : Int) ≤ 4096 - lo := by
          intro m
          induction m with
          | nil => intro lo _ _ h; simp; omega
          | cons x m ih =>
            intro lo hu hk hlo
            have hx := hk x (List.mem_cons_self ..)
            have := ih (x.Key + 1) hu.tail (fun y hy => ⟨by have := hu.head y hy; omega, (hk y (List.mem_cons_of_mem _ hy)).2⟩) (by omega)
            rw [List.length_cons]
            omega
        intro m hu hk
        have := gen m 0 hu hk (by omega)
        omega
      exact this _ ht.up fun x hx => ⟨(ht.ok x hx).1, (ht.ok x hx).2.1⟩
    · simp
  · simp
theorem readT_bad {l : List UInt8} (h : (readT l).2 ≠ 0) : (readT l).1 = [] := by
  unfold readT endT at h ⊢
  split
  · rename_i h1
    rw [if_pos h1] at h
    split
    · rename_i h2
      rw [if_pos h2] at h
      exact absurd rfl h
    · rfl
  · rfl

theorem size_of (s : ByteArray) : s.data.toList.length = s.size := by rw [Array.length_toList]; rfl
theorem splicelaw05_TableReads_true (a : List api_Pair) (s : ByteArray) : splicelaw05_TableReads a s = some true := by
  unfold splicelaw05_TableReads
  simp only [bnd]
  have stop : splicelaw05_TableReads.j1 a s true = some true := by
    unfold splicelaw05_TableReads.j1
    rw [if_pos rfl]
    exact out5
  rcases few5_cases a (⟨0, 0, 0, [], (⟨0, 0⟩ : api_Span), 0⟩ : api_Mut) [] with ⟨h, h1, h2, h3⟩ | h
  · rw [if_pos h]
    by_cases hs : (s.size : Int) > 5000
    · rw [decide_eq_true hs]; exact stop
    · rw [decide_eq_false hs]
      have hz := size_of s
      rw [← bs_eq s]
      generalize s.data.toList = l at hz
      have hl := readT_len l
      unfold splicelaw05_TableReads.j1
      rw [if_neg (by decide), Read_eq l (by omega), Option.bind_some, rRead_eq l (by omega), Option.bind_some, awake5, Option.bind_some, if_pos rfl, Text_eq a (by omega), Option.bind_some, Refs5_eq a (by omega), Option.bind_some, rText_eq a (by omega), Option.bind_some, if_pos (by simp), Refs5_eq _ (by omega), Option.bind_some]
      rw [same5_refl _ (by omega), Option.bind_some, if_pos rfl]
      simp [splicelaw05_TableReads.j2]
  · rw [h]
    exact stop
theorem splicelaw05_TableBack_true (a : List api_Pair) (s : ByteArray) : splicelaw05_TableBack a s = some true := by
  unfold splicelaw05_TableBack
  simp only [bnd]
  have stop : splicelaw05_TableBack.j1 a s true = some true := by
    unfold splicelaw05_TableBack.j1
    rw [if_pos rfl]
    exact out5
  rcases few5_cases a (⟨0, 0, 0, [], (⟨0, 0⟩ : api_Span), 0⟩ : api_Mut) [] with ⟨h, h1, h2, h3⟩ | h
  · rw [if_pos h]
    by_cases hs : (s.size : Int) > 5000
    · rw [decide_eq_true hs]; exact stop
    · rw [decide_eq_false hs]
      have hz := size_of s
      rw [← bs_eq s]
      generalize s.data.toList = l at hz
      have hl := readT_len l
      have back : splicelaw05_TableBack.j3 (bs l) = some true := by
        unfold splicelaw05_TableBack.j3 splicelaw05_TableBack.j4
        rw [Read_eq l (by omega), Option.bind_some, awake5, Option.bind_some, if_pos rfl]
        by_cases e0 : (readT l).2 = 0
        · obtain ⟨g1, g2⟩ := ttxt_read e0
          rw [if_pos e0, Text_eq _ (by omega), Option.bind_some, if_pos (tbB_iff.2 g1), g2]
          simp
        · rw [if_neg e0, readT_bad e0]
          rfl
      unfold splicelaw05_TableBack.j1
      rw [if_neg (by decide), check_eq a (by omega), Option.bind_some]
      by_cases ht : tbB a = true
      · have hT := tbB_iff.1 ht
        rw [if_pos ht, Text_eq a (by omega), Option.bind_some, if_pos ht, Read_eq _ (ttxt_len hT h1), Option.bind_some, read_ttxt hT (by omega)]
        simp only [if_true]
        rw [Refs5_eq a (by omega), Option.bind_some, Option.bind_some, same5_refl a (by omega), Option.bind_some]
        unfold splicelaw05_TableBack.j2
        rw [if_neg (by decide)]
        exact back
      · rw [if_neg ht]
        exact back
  · rw [h]
    exact stop
end Go.SyP
