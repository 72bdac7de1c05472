/- What a mutation makes of each key; the laws of parts of tables. -/
import Derived.Test.YtijabmambppfhaaP05N
set_option linter.unusedVariables false
set_option linter.unusedSimpArgs false
namespace Go.SyP
open Go Go.Sy Sets

theorem nodup_len : ∀ (l m : List Int), l.Nodup → (∀ x ∈ l, x ∈ m) → l.length ≤ m.length
  | [], _, _, _ => by simp
  | x :: l, m, h, hs => by
    obtain ⟨h1, h2⟩ := List.nodup_cons.1 h
    have hx := hs x (List.mem_cons_self ..)
    have := nodup_len l (m.erase x) h2 fun y hy => (List.mem_erase_of_ne (fun e => h1 (by rw [← e]; exact hy))).2 (hs y (List.mem_cons_of_mem _ hy))
    rw [List.length_erase_of_mem hx] at this
    have : 0 < m.length := List.length_pos_of_mem hx
    simp only [List.length_cons]
    omega
def cellN (m : api_Mut) (k : Int) (c : Option Int) : Option Int := (cellO m k c).getD c
/-- What it fails on. -/
def failK (l : List api_Pair) (m : api_Mut) (on : List api_Span) (k : Int) : Prop := touB m k = true ∧ hasB on k = true ∧ cellO m k (look l k) = none
theorem failK_iff {l : List api_Pair} {m : api_Mut} {on : List api_Span} {k : Int} : stepK l m on k = none ↔ failK l m on k := by
  unfold stepK failK
  by_cases h : (touB m k && hasB on k) = true
  · rw [if_pos h]
    rw [Bool.and_eq_true] at h
    exact ⟨fun e => ⟨h.1, h.2, e⟩, fun e => e.2.2⟩
  · rw [if_neg h]
    rw [Bool.and_eq_true] at h
    exact ⟨fun e => (by cases e), fun e => absurd ⟨e.1, e.2.1⟩ h⟩
theorem done_iff {l : List api_Pair} {m : api_Mut} {on : List api_Span} {r : List api_Pair × Bool} (h : ApplyTo l m on r) : r.2 = true ↔ ∀ k, ¬ failK l m on k := by
  constructor
  · intro hr k hk
    have := (h.done hr).2 k
    rw [failK_iff.2 hk] at this
    cases this
  · intro hk
    cases hr : r.2 with
    | true => rfl
    | false =>
      obtain ⟨_, k, h1⟩ := h.fail hr
      exact absurd (failK_iff.1 h1) (hk k)
theorem fail_alone' {m : api_Mut} (hm : MutIs m) {k : Int} {c : Option Int} (h : cellO m k c = none) (ht : touB m k = true) : ∀ j, touB m j = true → j = k := by
  have hk : m.Kind = 3 ∨ m.Kind = 4 := by
    unfold cellO at h
    by_cases k3 : m.Kind = 3
    · exact .inl k3
    · by_cases k4 : m.Kind = 4
      · exact .inr k4
      · rw [if_neg k3, if_neg k4] at h
        exfalso
        split at h
        · cases h
        · split at h
          · split at h <;> cases h
          · cases h
  obtain ⟨p, hp⟩ := hm.one hk
  have key : ∀ j, touB m j = true → j = p.Key := fun j hj => by
    unfold touB at hj
    rw [if_neg (by omega), hp] at hj
    by_cases e : p.Key = j
    · exact e.symm
    · simp [look, e] at hj
  intro j hj
  rw [key j hj, key k ht]
theorem look_ap {l : List api_Pair} {m : api_Mut} {on : List api_Span} {r : List api_Pair × Bool} (h : ApplyTo l m on r) (hm : MutIs m) (k : Int) :
    look r.1 k = if (touB m k && hasB on k) = true then cellN m k (look l k) else look l k := by
  cases hr : r.2 with
  | true =>
    have := (h.done hr).2 k
    unfold stepK at this
    by_cases hc : (touB m k && hasB on k) = true
    · rw [if_pos hc] at this ⊢
      unfold cellN
      rw [this]
      rfl
    · rw [if_neg hc] at this ⊢
      injection this with this
      exact this.symm
  | false =>
    obtain ⟨e, j, hj⟩ := h.fail hr
    have hf := failK_iff.1 hj
    rw [e]
    by_cases hc : (touB m k && hasB on k) = true
    · rw [if_pos hc]
      rw [Bool.and_eq_true] at hc
      have : k = j := fail_alone' hm hf.2.2 hf.1 k hc.1
      subst this
      unfold cellN
      rw [hf.2.2]
      rfl
    · rw [if_neg hc]
theorem tou_range {m : api_Mut} (hm : MutIs m) {k : Int} (h : touB m k = true) : 0 ≤ k ∧ k < 4096 := by
  unfold touB at h
  by_cases k2 : m.Kind = 2
  · rw [if_pos k2] at h
    have := hm.over k2
    simp only [Bool.and_eq_true, decide_eq_true_eq] at h
    unfold Ok pa at this
    omega
  · rw [if_neg k2] at h
    cases hl : look m.Pairs k with
    | none => rw [hl] at h; cases h
    | some v =>
      have := hm.ok _ (look_mem hl)
      exact ⟨this.1, this.2.1⟩
theorem look_range {l : List api_Pair} (h : Tb l) {k : Int} (hk : ¬ (0 ≤ k ∧ k < 4096)) : look l k = none := by
  cases hl : look l k with
  | none => rfl
  | some v =>
    have := look_ok h hl
    omega

/-! ### The set of the keys that are touched -/
theorem hasB_mem {on : List api_Span} (h : SOk on) (k : Int) : hasB on k = true ↔ mem (on.map pa) k := hasB_iff h
theorem mut_Touch_eq {m : api_Mut} (h : mOk m = true) : ∃ T, mut_Touch m = some T ∧ SOk T ∧ ∀ k, mem (T.map pa) k ↔ touB m k = true := by
  have hm := mutIs h
  have hl := hm.len
  unfold mut_Touch
  rw [mut_Check_eq m (by omega), Option.bind_some, if_pos h]
  by_cases k2 : m.Kind = 2
  · rw [if_pos k2]
    refine ⟨_, rfl, SOk_one (hm.over k2), fun k => ?_⟩
    unfold touB
    rw [if_pos k2]
    simp only [List.map_cons, List.map_nil, mem_cons, Bool.and_eq_true, decide_eq_true_eq]
    constructor
    · rintro (h | h)
      · exact h
      · exact absurd h mem_nil
    · exact fun h => .inl h
  · rw [if_neg k2]
    let S : List api_Span := m.Pairs.map fun p => ⟨p.Key, p.Key + 1⟩
    have hS : Good S := fun x hx => by
      obtain ⟨p, hp, rfl⟩ := List.mem_map.1 hx
      have := hm.ok p hp
      exact ⟨this.1, by show p.Key < p.Key + 1; omega, by show p.Key + 1 ≤ 4096; have := this.2.1; omega⟩
    have hmem : ∀ k, mem (S.map pa) k ↔ touB m k = true := fun k => by
      unfold touB
      rw [if_neg k2]
      constructor
      · rintro ⟨x, hx, h1, h2⟩
        obtain ⟨y, hy, rfl⟩ := List.mem_map.1 hx
        obtain ⟨p, hp, rfl⟩ := List.mem_map.1 hy
        have : p.Key = k := by simp only [pa] at h1 h2; omega
        subst this
        cases hq : look m.Pairs p.Key with
        | some v => rfl
        | none => exact absurd rfl (look_isNone hq p hp)
      · intro hq
        cases hl : look m.Pairs k with
        | none => rw [hl] at hq; cases hq
        | some v =>
          have := look_mem hl
          exact ⟨(k, k + 1), List.mem_map.2 ⟨⟨k, k + 1⟩, List.mem_map.2 ⟨_, this, rfl⟩, rfl⟩, Int.le_refl _, by show k < k + 1; omega⟩
    obtain ⟨r, e1, e2⟩ : ∃ r, goLoop (mut_Touch.step m) (.l1 0 []) = some r ∧ ∃ v, span_Make S = some v ∧ r = v.1 := by
      refine for_post (n := m.Pairs.length) (fun i x => mut_Touch.S.l1 (i : Int) x) (fun i x => x = (m.Pairs.take i).map fun p => (⟨p.Key, p.Key + 1⟩ : api_Span)) _ ?_ ?_ 0 [] (Nat.zero_le _) rfl
      · rintro x rfl
        rw [take_all (Nat.le_refl _)]
        rcases res_cases (span_Make_good (a := S) (by simp [S]; omega) hS) with ⟨L, _, _, e⟩ | e
        · exact ⟨L, by simp only [mut_Touch.step, mut_Touch.l1, Int.lt_irrefl, if_false]; rw [show m.Pairs.map (fun p => (⟨p.Key, p.Key + 1⟩ : api_Span)) = S from rfl, e]; rfl, _, e, rfl⟩
        · exact ⟨[], by simp only [mut_Touch.step, mut_Touch.l1, Int.lt_irrefl, if_false]; rw [show m.Pairs.map (fun p => (⟨p.Key, p.Key + 1⟩ : api_Span)) = S from rfl, e]; rfl, _, e, rfl⟩
      · rintro i x hi rfl
        left
        have hstep : (0 : Int) ≤ (i : Int) ∧ (i : Int) < (m.Pairs.length : Int) := by omega
        have hx := take_at (l := m.Pairs) (z := api_Pair.z) hi
        have hok := hm.ok _ (getD_in5 (z := api_Pair.z) hi)
        simp only [mut_Touch.step, mut_Touch.l1, hstep.2, if_true, hstep, and_self, show (i : Int).toNat = i from rfl, wr1 hi (by omega : m.Pairs.length ≤ 9223372036854775807)]
        rw [if_pos (by rw [List.length_map, List.length_take]; omega), wr (by have := hok.1; have := hok.2.1; omega), hx, List.map_append]
        exact ⟨_, rfl, rfl⟩
    obtain ⟨v, e3, rfl⟩ := e2
    rw [e1]
    have hres := span_Make_good (a := S) (by simp [S]; omega) hS
    obtain ⟨L, h1, h2, h3⟩ := hres
    have hlen : L.length ≤ 64 := by
      -- no more spans than keys
      have : ∀ (L : List Sp), Canon L → ∀ ks : List Int, (∀ k, mem L k → k ∈ ks) → L.length ≤ ks.length := by
        intro L hL ks hk
        have hnd : (L.map (·.1)).Nodup := List.pairwise_map.2 (hL.apart.imp_of_mem fun {x y} hx hy h => by
          have := hL.ok x hx
          unfold Sets.Ok at this
          intro e
          omega)
        have hsub : L.map (·.1) ⊆ ks := fun z hz => by
          obtain ⟨x, hx, rfl⟩ := List.mem_map.1 hz
          have := hL.ok x hx
          exact hk _ ⟨x, hx, Int.le_refl _, this.2.1⟩
        have := nodup_len (L.map (·.1)) ks hnd fun z hz => hsub hz
        simpa using this
      have := this (L.map pa) h1 (m.Pairs.map (·.Key)) (fun k hk => by
        have ht := (hmem k).1 ((h2 k).1 hk)
        unfold touB at ht
        rw [if_neg k2] at ht
        cases hl : look m.Pairs k with
        | none => rw [hl] at ht; cases ht
        | some v => exact List.mem_map.2 ⟨_, look_mem hl, rfl⟩)
      simp only [List.length_map] at this
      omega
    rw [if_neg (by omega)] at h3
    rw [h3] at e3
    injection e3 with e3
    subst e3
    exact ⟨L, rfl, ⟨h1, hlen⟩, fun k => (h2 k).trans (hmem k)⟩
theorem off_iff {a b : List api_Span} (ha : SOk a) (hb : SOk b) : (∃ k, mem (a.map pa) k ∧ mem (b.map pa) k) ↔ ∃ k, hasB a k = true ∧ hasB b k = true := by
  constructor <;> rintro ⟨k, h1, h2⟩ <;> exact ⟨k, by simpa [hasB_mem ha] using h1, by simpa [hasB_mem hb] using h2⟩

/-! ### The laws -/
theorem splicelaw05_TableClips_true (a b : List api_Pair) (on : List api_Span) : splicelaw05_TableClips a b on = some true := by
  have j1t : splicelaw05_TableClips.j1 a b on true = some true := by
    unfold splicelaw05_TableClips.j1
    rw [if_pos rfl]
    exact out5
  unfold splicelaw05_TableClips
  simp only [bnd]
  rcases few5_cases a (⟨0, 0, 0, [], (⟨0, 0⟩ : api_Span), 0⟩ : api_Mut) on with ⟨h, h1, _, h3⟩ | h
  · rw [if_pos h]
    rcases few5_cases b (⟨0, 0, 0, [], (⟨0, 0⟩ : api_Span), 0⟩ : api_Mut) [] with ⟨h', h1', _, _⟩ | h'
    · rw [h']
      unfold splicelaw05_TableClips.j1
      rw [if_neg (by decide)]
      obtain ⟨r, q1, q2, q3⟩ : ∃ r : List api_Pair × Int, table_Join a b = some r ∧ spliceref05_Join (a.map tr) (b.map tr) = some (r.1.map tr, r.2) ∧ r.1.length ≤ 5000 := by
        by_cases hg : Tb a ∧ Tb b
        · obtain ⟨r, e1, e2⟩ := table_Join_eq (by omega) (by omega) hg.1 hg.2
          obtain ⟨s, e3, e4⟩ := ref_Join_eq (by omega) (by omega) hg.1 hg.2
          have := e2.unique e4
          subst this
          refine ⟨r, e1, e3, ?_⟩
          cases e2 with
          | ok tb _ _ => have := up_len tb; simp only; omega
          | bad _ _ => simp
        · exact ⟨([], 1), table_Join_bad (by omega) (by omega) hg, ref_Join_bad (by omega) (by omega) hg, by simp⟩
      obtain ⟨c, p1, p2, p3⟩ : ∃ c, table_Clip a on = some c ∧ spliceref05_Clip (a.map tr) (on.map toR) = some (c.map tr) ∧ c.length ≤ 5000 := by
        by_cases hg : Tb a ∧ SOk on
        · refine ⟨_, Clip_good (by omega) (by omega) hg.1 hg.2, (ref_Clip_eq a on (by omega) (by omega)).1 hg, ?_⟩
          have := clip_len a on
          omega
        · exact ⟨[], Clip_bad (by omega) (by omega) hg, (ref_Clip_eq a on (by omega) (by omega)).2 hg, by simp⟩
      rw [q1, Option.bind_some, Refs5_eq a (by omega), Option.bind_some, Refs5_eq b (by omega), Option.bind_some, q2, Option.bind_some, awake5, Option.bind_some, if_pos rfl, p1, Option.bind_some, Refs5_eq c p3, Option.bind_some, Option.bind_some, Refs_eq on (by omega), Option.bind_some, p2, Option.bind_some, same5_refl c p3, Option.bind_some, if_pos rfl, Refs5_eq r.1 q3, Option.bind_some, same5_refl r.1 q3, Option.bind_some, if_pos rfl]
      simp [splicelaw05_TableClips.j2]
    · rw [h']
      exact j1t
  · rw [h]
    exact j1t

theorem splicelaw05_TableNone_true (a : List api_Pair) (m : api_Mut) (on : List api_Span) : splicelaw05_TableNone a m on = some true := by
  have j1t : splicelaw05_TableNone.j1 a m on true = some true := by
    unfold splicelaw05_TableNone.j1
    rw [if_pos rfl]
    exact out5
  unfold splicelaw05_TableNone
  rcases few5_cases a m on with ⟨h, h1, h2, h3⟩ | h
  · rw [if_pos h]
    obtain ⟨r1, c1, c2⟩ := table_Check_eq a (by omega)
    rw [c1, Option.bind_some]
    cases hr1 : r1 with
    | false => exact j1t
    | true =>
      rw [if_pos rfl, mut_Check_eq m (by omega), Option.bind_some]
      cases hm : mOk m with
      | false => exact j1t
      | true =>
        obtain ⟨r3, c5, c6⟩ := chkSR on (by omega)
        rw [if_pos rfl, Refs_eq on (by omega), Option.bind_some, c5, Option.bind_some]
        cases hr3 : r3 with
        | false => exact j1t
        | true =>
          have ht := c2.1 hr1
          have hs := c6.1 hr3
          obtain ⟨T, t1, t2, t3⟩ := mut_Touch_eq hm
          obtain ⟨v, u1, u2⟩ := touch_eq T on (by have := t2.2; omega) (by omega)
          rw [if_pos rfl, t1, Option.bind_some, u1, Option.bind_some]
          cases hv : v with
          | true => exact j1t
          | false =>
            have hno : ∀ k, ¬ (touB m k = true ∧ hasB on k = true) := fun k hk => by
              have : v = true := u2.2 ⟨t2, hs, k, (t3 k).2 hk.1, (hasB_mem hs k).1 hk.2⟩
              rw [hv] at this
              cases this
            obtain ⟨r, q1, q2, q3, q4⟩ := table_Apply_eq a m on (by omega) (by omega) (by omega) ht hm hs
            have hd : r.2 = true := (done_iff q2).2 fun k hk => hno k ⟨hk.1, hk.2.1⟩
            have he : r.1 = a := (q3.up).unique ht.up fun k => by
              rw [look_ap q2 (mutIs hm), if_neg (by rw [Bool.and_eq_true]; exact hno k)]
            unfold splicelaw05_TableNone.j1
            rw [if_neg (by decide), q1, Option.bind_some, awake5, Option.bind_some, if_pos rfl, if_pos hd, he, Refs5_eq a (by omega), Option.bind_some, Option.bind_some, same5_refl a (by omega)]
            rfl
  · rw [h]
    exact j1t

theorem hasB_allS {k : Int} (h : 0 ≤ k ∧ k < 4096) : hasB [⟨0, 4096⟩] k = true := hasB_all h
theorem ap_all {l : List api_Pair} {m : api_Mut} {r : List api_Pair × Bool} (h : ApplyTo l m [⟨0, 4096⟩] r) (hm : MutIs m) (k : Int) : look r.1 k = if touB m k = true then cellN m k (look l k) else look l k := by
  rw [look_ap h hm]
  by_cases ht : touB m k = true
  · rw [if_pos ht, if_pos (by rw [ht, hasB_allS (tou_range hm ht)]; rfl)]
  · rw [if_neg ht, if_neg (by simp [ht])]

theorem splicelaw05_TableFar_true (l : List api_Pair) (m n : api_Mut) : splicelaw05_TableFar l m n = some true := by
  have j1t : splicelaw05_TableFar.j1 l m n true = some true := by
    unfold splicelaw05_TableFar.j1
    rw [if_pos rfl]
    exact out5
  unfold splicelaw05_TableFar
  rcases few5_cases l m [] with ⟨h, h1, h2, h3⟩ | h
  · rw [if_pos h]
    rcases few5_cases [] n [] with ⟨h', _, h2', _⟩ | h'
    · rw [if_pos h']
      obtain ⟨r1, c1, c2⟩ := table_Check_eq l (by omega)
      rw [c1, Option.bind_some]
      cases hr1 : r1 with
      | false => exact j1t
      | true =>
        rw [if_pos rfl, mut_Check_eq m (by omega), Option.bind_some]
        cases hm : mOk m with
        | false => exact j1t
        | true =>
          rw [if_pos rfl, mut_Check_eq n (by omega), Option.bind_some]
          cases hn : mOk n with
          | false => exact j1t
          | true =>
            have ht := c2.1 hr1
            have him := mutIs hm
            have hin := mutIs hn
            obtain ⟨T, t1, t2, t3⟩ := mut_Touch_eq hm
            obtain ⟨U, w1, w2, w3⟩ := mut_Touch_eq hn
            obtain ⟨v, u1, u2⟩ := touch_eq T U (by have := t2.2; omega) (by have := w2.2; omega)
            rw [if_pos rfl, t1, Option.bind_some, w1, Option.bind_some, u1, Option.bind_some]
            cases hv : v with
            | true => exact j1t
            | false =>
              have hno : ∀ k, ¬ (touB m k = true ∧ touB n k = true) := fun k hk => by
                have : v = true := u2.2 ⟨t2, w2, k, (t3 k).2 hk.1, (w3 k).2 hk.2⟩
                rw [hv] at this
                cases this
              obtain ⟨a, a1, a2, a3, a4⟩ := table_Apply_eq l m [⟨0, 4096⟩] (by omega) (by omega) (by simp) ht hm allS_ok
              obtain ⟨ab, b1, b2, b3, b4⟩ := table_Apply_eq a.1 n [⟨0, 4096⟩] (by omega) (by omega) (by simp) a3 hn allS_ok
              obtain ⟨b, d1, d2, d3, d4⟩ := table_Apply_eq l n [⟨0, 4096⟩] (by omega) (by omega) (by simp) ht hn allS_ok
              obtain ⟨ba, e1, e2, e3, e4⟩ := table_Apply_eq b.1 m [⟨0, 4096⟩] (by omega) (by omega) (by simp) d3 hm allS_ok
              have la := ap_all a2 him
              have lab := ap_all b2 hin
              have lb := ap_all d2 hin
              have lba := ap_all e2 him
              have hsame : ab.1 = ba.1 := b3.up.unique e3.up fun k => by
                rw [lab, lba, la, lb]
                by_cases h1 : touB m k = true
                · have h2 : ¬ touB n k = true := fun h2 => hno k ⟨h1, h2⟩
                  simp only [if_pos h1, if_neg h2]
                · simp only [if_neg h1]
              have hp : a.2 = ba.2 := by
                rw [Bool.eq_iff_iff, done_iff a2, done_iff e2]
                constructor
                · intro hk k ⟨f1, f2, f3⟩
                  have h2 : ¬ touB n k = true := fun h2 => hno k ⟨f1, h2⟩
                  rw [lb, if_neg h2] at f3
                  exact hk k ⟨f1, f2, f3⟩
                · intro hk k ⟨f1, f2, f3⟩
                  have h2 : ¬ touB n k = true := fun h2 => hno k ⟨f1, h2⟩
                  exact hk k ⟨f1, f2, by rw [lb, if_neg h2]; exact f3⟩
              have hq : ab.2 = b.2 := by
                rw [Bool.eq_iff_iff, done_iff b2, done_iff d2]
                constructor
                · intro hk k ⟨f1, f2, f3⟩
                  have h2 : ¬ touB m k = true := fun h2 => hno k ⟨h2, f1⟩
                  exact hk k ⟨f1, f2, by rw [la, if_neg h2]; exact f3⟩
                · intro hk k ⟨f1, f2, f3⟩
                  have h2 : ¬ touB m k = true := fun h2 => hno k ⟨h2, f1⟩
                  rw [la, if_neg h2] at f3
                  exact hk k ⟨f1, f2, f3⟩
              unfold splicelaw05_TableFar.j1
              rw [if_neg (by decide), a1, Option.bind_some, b1, Option.bind_some, d1, Option.bind_some, e1, Option.bind_some, awake5, Option.bind_some, if_pos rfl, hp, hq, hsame]
              simp only [Refs5_eq ba.1 (by omega : ba.1.length ≤ 5000), Option.bind_some, same5_refl ba.1 (by omega : ba.1.length ≤ 5000), splicelaw05_TableFar.j2]
              cases ba.2 <;> cases b.2 <;> simp
    · rw [if_neg (by rw [h']; decide)]
      exact j1t
  · rw [if_neg (by rw [h]; decide)]
    exact j1t

/-- All keys but those of a set. -/
theorem less_bad' {b : List api_Span} (hb : b.length ≤ 9223372036854775807) (h : ¬ SOk b) : span_Less [⟨0, 4096⟩] b = some ([], 1) := by
  obtain ⟨r, c1, c2⟩ := chkS [⟨0, 4096⟩] (by simp)
  obtain ⟨s, c3, c4⟩ := span_Check_eq b hb
  have hs : s = false := by
    cases hs : s with
    | false => rfl
    | true => exact absurd (c4.1 hs) h
  unfold span_Less
  rw [c1, Option.bind_some, if_pos (c2.2 allS_ok), c3, Option.bind_some, hs]
  rfl
theorem off_spec {on : List api_Span} (ho : on.length ≤ 9223372036854775807) : ∃ v, span_Less [⟨0, 4096⟩] on = some v ∧ (v.2 = 0 → SOk on ∧ SOk v.1 ∧ ∀ k, hasB v.1 k = (decide (0 ≤ k ∧ k < 4096) && !hasB on k)) := by
  by_cases hg : SOk on
  · rcases res_cases (less_good (a := [⟨0, 4096⟩]) (b := on) allS_ok hg) with ⟨L, h1, h2, h3⟩ | h3
    · refine ⟨_, h3, fun _ => ⟨hg, h1, fun k => ?_⟩⟩
      rw [Bool.eq_iff_iff, hasB_mem h1, h2, show (mem ([(⟨0, 4096⟩ : api_Span)].map pa) k ↔ hasB [⟨0, 4096⟩] k = true) from (hasB_mem allS_ok k).symm, ← hasB_mem hg]
      simp only [Bool.and_eq_true, decide_eq_true_eq, Bool.not_eq_true']
      constructor
      · rintro ⟨q1, q2⟩
        refine ⟨?_, by simpa using q2⟩
        have := (hasB_mem allS_ok k).1 q1
        exact allS_ok.1.bound this
      · rintro ⟨q1, q2⟩
        exact ⟨hasB_allS q1, by simp [q2]⟩
    · exact ⟨_, h3, fun h => by simp at h⟩
  · exact ⟨_, less_bad' ho hg, fun h => by simp at h⟩

theorem splicelaw05_TableParts_true (l : List api_Pair) (m : api_Mut) (on : List api_Span) {p0 p1 q2 : Prop} (w0 : p0) (w1 : p1) (w2 : on.length ≤ maxLen ∧ q2) : splicelaw05_TableParts l m on = some true := by
  obtain ⟨off, z1, z2⟩ := off_spec (on := on) w2.1
  have j1t : splicelaw05_TableParts.j1 l m on off true = some true := by
    unfold splicelaw05_TableParts.j1
    rw [if_pos rfl]
    exact out5
  unfold splicelaw05_TableParts
  rw [z1, Option.bind_some]
  rcases few5_cases l m on with ⟨h, h1, h2, h3⟩ | h
  · rw [if_pos h]
    obtain ⟨r1, c1, c2⟩ := table_Check_eq l (by omega)
    rw [c1, Option.bind_some]
    cases hr1 : r1 with
    | false => exact j1t
    | true =>
      rw [if_pos rfl, mut_Check_eq m (by omega), Option.bind_some]
      cases hm : mOk m with
      | false => exact j1t
      | true =>
        rw [if_pos rfl]
        by_cases he : off.2 = 0
        · rw [neF he]
          obtain ⟨hs, hso, hoff⟩ := z2 he
          have ht := c2.1 hr1
          have him := mutIs hm
          have lo := hso.2
          have ls := hs.2
          have q1 := clip_len l on
          have q2 := clip_len l off.1
          obtain ⟨W, a1, a2, a3, a4⟩ := table_Apply_eq l m [⟨0, 4096⟩] (by omega) (by omega) (by simp) ht hm allS_ok
          obtain ⟨A, b1, b2, b3, b4⟩ := table_Apply_eq (clip l on) m on (by omega) (by omega) (by omega) (clip_tb ht on) hm hs
          obtain ⟨B, d1, d2, d3, d4⟩ := table_Apply_eq (clip l off.1) m off.1 (by omega) (by omega) (by omega) (clip_tb ht off.1) hm hso
          obtain ⟨J, e1, e2⟩ := table_Join_eq (a := A.1) (b := B.1) (by omega) (by omega) b3 d3
          have lW := ap_all a2 him
          have lA : ∀ k, look A.1 k = if hasB on k = true then look W.1 k else none := fun k => by
            rw [look_ap b2 him, look_clip, lW]
            by_cases h1 : hasB on k = true <;> by_cases h2 : touB m k = true <;> simp [h1, h2]
          have lB : ∀ k, look B.1 k = if hasB off.1 k = true then look W.1 k else none := fun k => by
            rw [look_ap d2 him, look_clip, lW]
            by_cases h1 : hasB off.1 k = true <;> by_cases h2 : touB m k = true <;> simp [h1, h2]
          have hJ : J = (W.1, 0) := e2.unique (.ok a3 (fun k => by
            rw [lA, lB, hoff]
            by_cases h1 : hasB on k = true
            · simp [h1]
            · by_cases hr : 0 ≤ k ∧ k < 4096
              · simp [h1, hr]
              · rw [look_range a3 hr]
                simp) fun k => by
            rw [lA, lB, hoff]
            by_cases h1 : hasB on k = true
            · right; simp [h1]
            · left; simp [h1])
          have hdone : W.2 = (A.2 && B.2) := by
            rw [Bool.eq_iff_iff, Bool.and_eq_true, done_iff a2, done_iff b2, done_iff d2]
            constructor
            · intro hk
              refine ⟨fun k ⟨f1, f2, f3⟩ => hk k ⟨f1, hasB_allS (tou_range him f1), ?_⟩, fun k ⟨f1, f2, f3⟩ => hk k ⟨f1, hasB_allS (tou_range him f1), ?_⟩⟩
              · rwa [look_clip, if_pos f2] at f3
              · rwa [look_clip, if_pos f2] at f3
            · rintro ⟨k1, k2⟩ k ⟨f1, f2, f3⟩
              by_cases h1 : hasB on k = true
              · exact k1 k ⟨f1, h1, by rw [look_clip, if_pos h1]; exact f3⟩
              · have h2 : hasB off.1 k = true := by
                  rw [hoff]
                  simp [h1, tou_range him f1]
                exact k2 k ⟨f1, h2, by rw [look_clip, if_pos h2]; exact f3⟩
          unfold splicelaw05_TableParts.j1
          rw [if_neg (by decide), a1, Option.bind_some, Clip_good (by omega) (by omega) ht hs, Option.bind_some, b1, Option.bind_some, Clip_good (by omega) (by omega) ht hso, Option.bind_some, d1, Option.bind_some, e1, Option.bind_some, awake5, Option.bind_some, if_pos rfl, hJ]
          simp only [if_true]
          rw [Refs5_eq W.1 (by omega), Option.bind_some, Option.bind_some, same5_refl W.1 (by omega), Option.bind_some, if_pos rfl, hdone]
          cases A.2 <;> cases B.2 <;> simp [splicelaw05_TableParts.j2]
        · rw [neT he]
          exact j1t
  · rw [if_neg (by rw [h]; decide)]
    exact j1t
end Go.SyP
