/- Hold: the heap goes up and down. -/
import Derived.Test.YtboaahlhgekbbaaP06A
set_option linter.unusedVariables false
set_option linter.unusedSimpArgs false
namespace Go.SyP
open Go Go.Sy

def Kf (κ : Nat → api_Stamp) (l : List Nat) (i : Nat) : api_Stamp := κ (l.getD i 0)
def Heap (κ : Nat → api_Stamp) (l : List Nat) (n : Nat) : Prop := ∀ c, 1 ≤ c → c < n → leS (Kf κ l ((c - 1) / 2)) (Kf κ l c)
structure UpI (κ : Nat → api_Stamp) (l : List Nat) (n j : Nat) : Prop where
  rest : ∀ c, 1 ≤ c → c < n → c ≠ j → leS (Kf κ l ((c - 1) / 2)) (Kf κ l c)
  over : ∀ c, 1 ≤ j → 1 ≤ c → c < n → (c - 1) / 2 = j → leS (Kf κ l ((j - 1) / 2)) (Kf κ l c)
structure Around (κ : Nat → api_Stamp) (l : List Nat) (n i : Nat) : Prop where
  rest : ∀ c, 1 ≤ c → c < n → c ≠ i → (c - 1) / 2 ≠ i → leS (Kf κ l ((c - 1) / 2)) (Kf κ l c)
  over : ∀ c, 1 ≤ i → 1 ≤ c → c < n → (c - 1) / 2 = i → leS (Kf κ l ((i - 1) / 2)) (Kf κ l c)

structure Moved (dom : List Nat) (n : Nat) (l0 : List Nat) (M0 : Nat → hold_item) (l : List Nat) (M : Nat → hold_item) : Prop where
  hs : HS dom l M
  perm : l.Perm l0
  same : ∀ a, (M a).h = (M0 a).h
  tail : ∀ k, n ≤ k → l.getD k 0 = l0.getD k 0
theorem Moved.refl {dom : List Nat} {n : Nat} {l : List Nat} {M : Nat → hold_item} (h : HS dom l M) : Moved dom n l M l M := ⟨h, .refl _, fun _ => rfl, fun _ _ => rfl⟩
theorem Moved.trans {dom : List Nat} {n : Nat} {l0 l1 l : List Nat} {M0 M1 M : Nat → hold_item} (h : Moved dom n l0 M0 l1 M1) (k : Moved dom n l1 M1 l M) : Moved dom n l0 M0 l M :=
  ⟨k.hs, k.perm.trans h.perm, fun a => (k.same a).trans (h.same a), fun q hq => (k.tail q hq).trans (h.tail q hq)⟩
theorem Moved.len {dom : List Nat} {n : Nat} {l0 l : List Nat} {M0 M : Nat → hold_item} (h : Moved dom n l0 M0 l M) : l.length = l0.length := h.perm.length_eq
theorem Moved.swap {dom : List Nat} {n : Nat} {l0 l : List Nat} {M0 M : Nat → hold_item} (h : Moved dom n l0 M0 l M) (hn : n ≤ l.length) {i j : Nat} (hi : i < n) (hj : j < n) : Moved dom n l0 M0 (swapL l i j) (swM M (swapL l i j) i j) :=
  ⟨swap_HS h.hs (by omega) (by omega), (swapL_perm (by omega) (by omega)).trans h.perm, fun a => (swM_h _ _ _ _ _).trans (h.same a), fun k hk => by
    rw [swapL_getD (by omega) (by omega), if_neg (by omega), if_neg (by omega)]
    exact h.tail k hk⟩
theorem Kf_swap {κ : Nat → api_Stamp} {l : List Nat} {i j : Nat} (hi : i < l.length) (hj : j < l.length) (k : Nat) : Kf κ (swapL l i j) k = if k = j then Kf κ l i else if k = i then Kf κ l j else Kf κ l k := by
  unfold Kf
  rw [swapL_getD hi hj]
  split
  · rfl
  · split <;> rfl

theorem up_spec {dom l0 : List Nat} {M0 : Nat → hold_item} {n j : Nat} (h : HS dom l0 M0) (hn : n ≤ l0.length) (hj : j < n) (hu : UpI (fun a => stampH (M0 a).h) l0 n j) :
    ∃ l M, heap_up_i92 ⟨⟨l0⟩⟩ j dom M0 = some (⟨⟨l⟩⟩, M) ∧ Moved dom n l0 M0 l M ∧ Heap (fun a => stampH (M0 a).h) l n := by
  have key := loop_to (step := heap_up_i92.step dom)
    (fun s => ∃ (q : Nat) (M : Nat → hold_item) (l : List Nat), s = .l1 q M l ∧ q < n ∧ Moved dom n l0 M0 l M ∧ UpI (fun a => stampH (M0 a).h) l n q)
    (fun s => match s with | .l1 x _ _ => x.toNat)
    (fun r => ∃ l M, r = (⟨⟨l⟩⟩, M) ∧ Moved dom n l0 M0 l M ∧ Heap (fun a => stampH (M0 a).h) l n) ?_ (.l1 j M0 l0) ⟨j, M0, l0, rfl, hj, .refl h, hu⟩
  · obtain ⟨r, h1, l, M, rfl, h2, h3⟩ := key
    exact ⟨l, M, h1, h2, h3⟩
  rintro s ⟨q, M, l, rfl, hq, hm, hu⟩
  have hlen := hm.len
  have hL := hm.hs.len
  simp only [heap_up_i92.step, heap_up_i92.l1, bnd]
  by_cases h0 : q = 0
  · subst h0
    right
    refine ⟨(⟨⟨l⟩⟩, M), ?_, l, M, rfl, hm, fun c h1 h2 => hu.rest c h1 h2 (by omega)⟩
    rw [if_pos (by decide)]
    rfl
  · have hp : IntKind.wrap .i64 (Int.tdiv (IntKind.wrap .i64 ((q : Int) - 1)) 2) = (((q - 1) / 2 : Nat) : Int) := by
      have e1 : IntKind.wrap .i64 ((q : Int) - 1) = ((q - 1 : Nat) : Int) := by rw [wr (by omega)]; omega
      have e2 : Int.tdiv ((q - 1 : Nat) : Int) 2 = (((q - 1) / 2 : Nat) : Int) := by rw [Int.tdiv_eq_ediv_of_nonneg (by omega)]; omega
      rw [e1, e2, wr (by omega)]
    rw [hp, if_neg (by omega), Less_eq hm.hs (by omega) (by omega), Option.bind_some]
    have hpq : (q - 1) / 2 < q := by omega
    have hK : ∀ i, stampH (M (l.getD i 0)).h = Kf (fun a => stampH (M0 a).h) l i := fun i => by rw [hm.same]; rfl
    simp only [hK]
    by_cases hl : ltS (Kf (fun a => stampH (M0 a).h) l q) (Kf (fun a => stampH (M0 a).h) l ((q - 1) / 2))
    · left
      refine ⟨.l1 (((q - 1) / 2 : Nat) : Int) (swM M (swapL l ((q - 1) / 2) q) ((q - 1) / 2) q) (swapL l ((q - 1) / 2) q), ?_, ⟨_, _, _, rfl, by omega, hm.swap (by omega) (by omega) (by omega), ?_, ?_⟩, by simp; omega⟩
      · simp only [heap_up_i92.j1, decide_eq_true hl, Bool.not_true, Bool.false_eq_true, if_false]
        rw [Swap_eq hm.hs (by omega) (by omega)]
        rfl
      · intro c h1 h2 h3
        rw [Kf_swap (by omega) (by omega), Kf_swap (by omega) (by omega)]
        by_cases e1 : c = q
        · subst e1
          rw [if_neg (by omega), if_pos rfl, if_pos rfl]
          exact leS_of_lt hl
        · rw [if_neg (show ¬ c = q from e1), if_neg (show ¬ c = (q - 1) / 2 from h3)]
          by_cases e2 : (c - 1) / 2 = (q - 1) / 2
          · rw [if_neg (by omega), if_pos e2]
            refine leS_trans (leS_of_lt hl) ?_
            rw [← e2]
            exact hu.rest c h1 h2 e1
          · by_cases e3 : (c - 1) / 2 = q
            · rw [if_pos e3]
              exact hu.over c (by omega) h1 h2 e3
            · rw [if_neg e3, if_neg e2]
              exact hu.rest c h1 h2 e1
      · intro c h1 h2 h3 h4
        rw [Kf_swap (by omega) (by omega), Kf_swap (by omega) (by omega)]
        rw [if_neg (show ¬ ((q - 1) / 2 - 1) / 2 = q by omega), if_neg (show ¬ ((q - 1) / 2 - 1) / 2 = (q - 1) / 2 by omega)]
        have e0 := hu.rest ((q - 1) / 2) (by omega) (by omega) (by omega)
        by_cases e1 : c = q
        · rw [if_pos e1]
          exact e0
        · rw [if_neg e1, if_neg (by omega)]
          refine leS_trans e0 ?_
          rw [← h4]
          exact hu.rest c h2 h3 e1
    · right
      refine ⟨(⟨⟨l⟩⟩, M), ?_, l, M, rfl, hm, fun c h1 h2 => ?_⟩
      · simp only [heap_up_i92.j1, decide_eq_false hl, Bool.not_false, if_true]
      · by_cases e1 : c = q
        · subst e1
          exact hl
        · exact hu.rest c h1 h2 e1

theorem down_step {dom l0 : List Nat} {M0 : Nat → hold_item} {n : Nat} {l : List Nat} {M : Nat → hold_item} (a1 : Int) (hm : Moved dom n l0 M0 l M) (hn : n ≤ l.length) {x : Nat} (hx : x < l.length) :
    (n ≤ 2 * x + 1 ∧ heap_down_i92.step a1 n dom (.l1 x M l) = some (.inr (decide ((x : Int) > a1), ⟨⟨l⟩⟩, M))) ∨
    ∃ y, (y = 2 * x + 1 ∨ y = 2 * x + 2) ∧ y < n ∧ (∀ c, 1 ≤ c → c < n → (c - 1) / 2 = x → leS (Kf (fun a => stampH (M0 a).h) l y) (Kf (fun a => stampH (M0 a).h) l c)) ∧
      heap_down_i92.step a1 n dom (.l1 x M l) = (if ltS (Kf (fun a => stampH (M0 a).h) l y) (Kf (fun a => stampH (M0 a).h) l x) then some (.inl (.l1 y (swM M (swapL l x y) x y) (swapL l x y))) else some (.inr (decide ((x : Int) > a1), ⟨⟨l⟩⟩, M))) := by
  have hlen := hm.len
  have hL := hm.hs.len
  have hK : ∀ i, stampH (M (l.getD i 0)).h = Kf (fun a => stampH (M0 a).h) l i := fun i => by rw [hm.same]; rfl
  have w1 : IntKind.wrap .i64 (2 * (x : Int)) = ((2 * x : Nat) : Int) := by rw [wr (by omega)]; omega
  have w2 : IntKind.wrap .i64 (((2 * x : Nat) : Int) + 1) = ((2 * x + 1 : Nat) : Int) := by rw [wr (by omega)]; omega
  have w3 : IntKind.wrap .i64 (((2 * x + 1 : Nat) : Int) + 1) = ((2 * x + 2 : Nat) : Int) := by rw [wr (by omega)]; omega
  have h3 : ∀ (y : Nat), y < l.length → heap_down_i92.j3 a1 dom (x : Int) M l (y : Int) = (if ltS (Kf (fun a => stampH (M0 a).h) l y) (Kf (fun a => stampH (M0 a).h) l x) then some (.inl (.l1 y (swM M (swapL l x y) x y) (swapL l x y))) else some (.inr (decide ((x : Int) > a1), ⟨⟨l⟩⟩, M))) := by
    intro y hy
    unfold heap_down_i92.j3
    rw [Less_eq hm.hs hy hx, Option.bind_some]
    simp only [hK]
    by_cases hl : ltS (Kf (fun a => stampH (M0 a).h) l y) (Kf (fun a => stampH (M0 a).h) l x)
    · rw [if_pos hl, if_pos (decide_eq_true hl), Swap_eq hm.hs hx hy]
      rfl
    · rw [if_neg hl, if_neg (by simpa using hl)]
  simp only [heap_down_i92.step, heap_down_i92.l1, w1, w2]
  by_cases h1 : n ≤ 2 * x + 1
  · left
    refine ⟨h1, ?_⟩
    rw [if_pos (by omega)]
    simp only [heap_down_i92.j1, if_true]
  · right
    rw [if_neg (by omega)]
    have hd : decide (((2 * x + 1 : Nat) : Int) < 0) = false := decide_eq_false (by omega)
    simp only [heap_down_i92.j1, hd, Bool.false_eq_true, if_false, bnd, w1, w2, w3]
    have hj2 : ∀ b, heap_down_i92.j2 a1 dom (x : Int) M ((2 * x + 2 : Nat) : Int) b l = if b = true then heap_down_i92.j3 a1 dom (x : Int) M l ((2 * x + 2 : Nat) : Int) else heap_down_i92.j3 a1 dom (x : Int) M l ((2 * x + 1 : Nat) : Int) := by
      intro b
      unfold heap_down_i92.j2
      rw [w1, w2]
    by_cases h2 : 2 * x + 2 < n
    · rw [if_pos (by omega), Less_eq hm.hs (by omega) (by omega), Option.bind_some]
      simp only [hK, hj2]
      by_cases hl : ltS (Kf (fun a => stampH (M0 a).h) l (2 * x + 2)) (Kf (fun a => stampH (M0 a).h) l (2 * x + 1))
      · refine ⟨2 * x + 2, .inr rfl, h2, fun c c1 c2 c3 => ?_, ?_⟩
        · rcases (show c = 2 * x + 1 ∨ c = 2 * x + 2 by omega) with e | e
          · rw [e]; exact leS_of_lt hl
          · rw [e]; exact leS_refl _
        · rw [if_pos (decide_eq_true hl)]
          exact h3 _ (by omega)
      · refine ⟨2 * x + 1, .inl rfl, by omega, fun c c1 c2 c3 => ?_, ?_⟩
        · rcases (show c = 2 * x + 1 ∨ c = 2 * x + 2 by omega) with e | e
          · rw [e]; exact leS_refl _
          · rw [e]; exact hl
        · rw [if_neg (by simpa using hl)]
          exact h3 _ (by omega)
    · rw [if_neg (by omega), hj2, if_neg (by simp)]
      refine ⟨2 * x + 1, .inl rfl, by omega, fun c c1 c2 c3 => ?_, h3 _ (by omega)⟩
      rw [show c = 2 * x + 1 by omega]
      exact leS_refl _

theorem down_spec {dom l0 : List Nat} {M0 : Nat → hold_item} {n i : Nat} (h : HS dom l0 M0) (hn : n ≤ l0.length) (hi : i < l0.length) (ha : Around (fun a => stampH (M0 a).h) l0 n i) :
    ∃ b l M, heap_down_i92 ⟨⟨l0⟩⟩ i n dom M0 = some (b, ⟨⟨l⟩⟩, M) ∧ Moved dom n l0 M0 l M ∧ (b = true → Heap (fun a => stampH (M0 a).h) l n) ∧ (b = false → l = l0 ∧ M = M0 ∧ UpI (fun a => stampH (M0 a).h) l0 n i) := by
  have key := loop_to (step := heap_down_i92.step (i : Int) (n : Int) dom)
    (fun s => ∃ (q : Nat) (M : Nat → hold_item) (l : List Nat), s = .l1 q M l ∧ q < l0.length ∧ Moved dom n l0 M0 l M ∧ Around (fun a => stampH (M0 a).h) l n q ∧ i ≤ q ∧ (i = q → l = l0 ∧ M = M0) ∧ (i < q → leS (Kf (fun a => stampH (M0 a).h) l ((q - 1) / 2)) (Kf (fun a => stampH (M0 a).h) l q)))
    (fun s => match s with | .l1 x _ _ => n - x.toNat)
    (fun r => ∃ b l M, r = (b, ⟨⟨l⟩⟩, M) ∧ Moved dom n l0 M0 l M ∧ (b = true → Heap (fun a => stampH (M0 a).h) l n) ∧ (b = false → l = l0 ∧ M = M0 ∧ UpI (fun a => stampH (M0 a).h) l0 n i)) ?_ (.l1 i M0 l0) ⟨i, M0, l0, rfl, hi, .refl h, ha, Nat.le_refl _, fun _ => ⟨rfl, rfl⟩, fun h => absurd h (Nat.lt_irrefl _)⟩
  · obtain ⟨r, h1, b, l, M, rfl, h2⟩ := key
    exact ⟨b, l, M, h1, h2⟩
  rintro s ⟨q, M, l, rfl, hq, hm, ha, hiq, hsame, hedge⟩
  have hlen := hm.len
  have fin : (∀ c, 1 ≤ c → c < n → (c - 1) / 2 = q → leS (Kf (fun a => stampH (M0 a).h) l q) (Kf (fun a => stampH (M0 a).h) l c)) →
      ∃ b l' M', ((decide ((q : Int) > (i : Int)), ⟨⟨l⟩⟩, M) : Bool × hold_Queue × (Nat → hold_item)) = (b, ⟨⟨l'⟩⟩, M') ∧ Moved dom n l0 M0 l' M' ∧ (b = true → Heap (fun a => stampH (M0 a).h) l' n) ∧ (b = false → l' = l0 ∧ M' = M0 ∧ UpI (fun a => stampH (M0 a).h) l0 n i) := by
    intro hch
    refine ⟨_, l, M, rfl, hm, fun hb => ?_, fun hb => ?_⟩
    · have hb : (q : Int) > (i : Int) := by simpa using hb
      intro c h1 h2
      by_cases e1 : c = q
      · subst e1; exact hedge (by omega)
      · by_cases e2 : (c - 1) / 2 = q
        · rw [e2]; exact hch c h1 h2 e2
        · exact ha.rest c h1 h2 e1 e2
    · have hb : ¬ (q : Int) > (i : Int) := by simpa using hb
      obtain rfl : i = q := by omega
      obtain ⟨rfl, rfl⟩ := hsame rfl
      refine ⟨rfl, rfl, fun c h1 h2 h3 => ?_, ha.over⟩
      by_cases e2 : (c - 1) / 2 = i
      · rw [e2]; exact hch c h1 h2 e2
      · exact ha.rest c h1 h2 h3 e2
  rcases down_step (i : Int) hm (by omega) (x := q) (by omega) with ⟨h1, h2⟩ | ⟨y, hy, hyn, hmin, h2⟩
  · right
    exact ⟨_, h2, fin fun c h3 h4 h5 => by omega⟩
  · rw [h2]
    by_cases hl : ltS (Kf (fun a => stampH (M0 a).h) l y) (Kf (fun a => stampH (M0 a).h) l q)
    · left
      rw [if_pos hl]
      have hpy : (y - 1) / 2 = q := by omega
      refine ⟨_, rfl, ⟨y, _, _, rfl, by omega, hm.swap (by omega) (by omega) hyn, ⟨fun c h3 h4 h5 h6 => ?_, fun c h3 h4 h5 h6 => ?_⟩, by omega, fun e => by omega, fun _ => ?_⟩, by simp; omega⟩
      · rw [Kf_swap (by omega) (by omega), Kf_swap (by omega) (by omega)]
        rw [if_neg (show ¬ c = y from h5), if_neg (show ¬ (c - 1) / 2 = y from h6)]
        by_cases e1 : c = q
        · rw [if_pos e1, if_neg (by omega)]
          subst e1
          exact ha.over y (by omega) (by omega) hyn hpy
        · rw [if_neg e1]
          by_cases e2 : (c - 1) / 2 = q
          · rw [if_pos e2]
            exact hmin c h3 h4 e2
          · rw [if_neg e2]
            exact ha.rest c h3 h4 e1 e2
      · rw [Kf_swap (by omega) (by omega), Kf_swap (by omega) (by omega)]
        rw [hpy, if_neg (by omega), if_pos rfl, if_neg (by omega), if_neg (by omega)]
        have := ha.rest c h4 h5 (by omega) (by omega)
        rw [h6] at this
        exact this
      · rw [Kf_swap (by omega) (by omega), Kf_swap (by omega) (by omega), hpy, if_neg (by omega), if_pos rfl, if_pos rfl]
        exact leS_of_lt hl
    · right
      rw [if_neg hl]
      refine ⟨_, rfl, fin fun c h3 h4 h5 => ?_⟩
      exact leS_trans hl (hmin c h3 h4 h5)
end Go.SyP
