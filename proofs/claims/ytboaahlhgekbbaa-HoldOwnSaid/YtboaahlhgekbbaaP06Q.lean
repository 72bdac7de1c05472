/- Hold: what the functions on the heap come to. -/
import Derived.Test.YtboaahlhgekbbaaP06L
set_option linter.unusedVariables false
set_option linter.unusedSimpArgs false
namespace Go.SyP
open Go Go.Sy

theorem find_spec {dom l : List Nat} {M : Nat → hold_item} (hs : HS dom l M) (c s : Int) :
    ∃ o, hold_Queue_find ⟨⟨l⟩⟩ c s dom M = some (o, ⟨⟨l⟩⟩) ∧ ((o = none ∧ ∀ a ∈ l, isK c s (M a).h = false) ∨ ∃ i, i < l.length ∧ o = some (l.getD i 0) ∧ isK c s (M (l.getD i 0)).h = true) := by
  have key := for_post (step := hold_Queue_find.step ⟨⟨l⟩⟩ c s dom M) (n := l.length) (fun i (_ : Unit) => .l1 (i : Int)) (fun i _ => ∀ k, k < i → isK c s (M (l.getD k 0)).h = false)
    (fun r => ∃ o, r = (o, ⟨⟨l⟩⟩) ∧ ((o = none ∧ ∀ a ∈ l, isK c s (M a).h = false) ∨ ∃ i, i < l.length ∧ o = some (l.getD i 0) ∧ isK c s (M (l.getD i 0)).h = true)) ?_ ?_ 0 () (Nat.zero_le _) (fun k hk => by omega)
  · obtain ⟨r, h1, o, rfl, h2⟩ := key
    exact ⟨o, h1, h2⟩
  · intro _ hI
    refine ⟨(none, ⟨⟨l⟩⟩), ?_, none, rfl, .inl ⟨rfl, fun a ha => ?_⟩⟩
    · simp [hold_Queue_find.step, hold_Queue_find.l1]
    · obtain ⟨k, hk, rfl⟩ := List.mem_iff_getElem.1 ha
      have := hI k hk
      simpa [hk] using this
  · intro i _ hi hI
    have hmem := hs.sub _ (getD_mem hi)
    have hL := hs.len
    simp only [hold_Queue_find.step, hold_Queue_find.l1, Int.toNat_natCast]
    rw [if_pos (by omega), if_pos (by omega), if_pos hmem]
    have hj : ∀ b, b = isK c s (M (l.getD i 0)).h → ((∃ y : Unit, hold_Queue_find.j1 ⟨⟨l⟩⟩ (i : Int) b = some (.inl (.l1 ((i + 1 : Nat) : Int))) ∧ ∀ k, k < i + 1 → isK c s (M (l.getD k 0)).h = false) ∨
        ∃ r, hold_Queue_find.j1 ⟨⟨l⟩⟩ (i : Int) b = some (.inr r) ∧ ∃ o, r = (o, ⟨⟨l⟩⟩) ∧ ((o = none ∧ ∀ a ∈ l, isK c s (M a).h = false) ∨ ∃ i, i < l.length ∧ o = some (l.getD i 0) ∧ isK c s (M (l.getD i 0)).h = true)) := by
      intro b hb
      cases b with
      | true =>
        right
        refine ⟨(some (l.getD i 0), ⟨⟨l⟩⟩), ?_, _, rfl, .inr ⟨i, hi, rfl, hb.symm⟩⟩
        simp [hold_Queue_find.j1]
      | false =>
        left
        refine ⟨(), ?_, fun k hk => ?_⟩
        · simp only [hold_Queue_find.j1, Bool.false_eq_true, if_false]
          rw [wr1 hi (by omega)]
        · by_cases e : k = i
          · rw [e]; exact hb.symm
          · exact hI k (by omega)
    by_cases hc : (M (l.getD i 0)).h.M.Client = c
    · rw [if_pos hc]
      exact hj _ (by unfold isK; rw [hc, beq_self_eq_true, Bool.true_and])
    · rw [if_neg hc]
      exact hj _ (by unfold isK; rw [beq_eq_false_iff_ne.2 hc, Bool.false_and])

theorem getD_take {l : List Nat} {n k : Nat} (h : k < n) : (l.take n).getD k 0 = l.getD k 0 := by
  simp [List.getD_eq_getElem?_getD, List.getElem?_take_of_lt h]
theorem Kf_take {κ : Nat → api_Stamp} {l : List Nat} {n k : Nat} (h : k < n) : Kf κ (l.take n) k = Kf κ l k := by
  unfold Kf; rw [getD_take h]

/-- The last one goes. -/
theorem itemsPop {dom l : List Nat} {M : Nat → hold_item} (hs : HS dom l M) (h0 : 0 < l.length) : hold_items_Pop ⟨⟨l⟩⟩ dom M = some (l.getD (l.length - 1) 0, ⟨⟨l.take (l.length - 1)⟩⟩) := by
  have hL := hs.len
  have w : IntKind.wrap .i64 ((l.length : Int) - 1) = ((l.length - 1 : Nat) : Int) := by rw [wr (by omega)]; omega
  unfold hold_items_Pop
  simp only [w, Int.toNat_natCast]
  rw [if_pos (by omega), if_pos (by omega)]
theorem take_HS {dom l : List Nat} {M : Nat → hold_item} (hs : HS dom l M) (n : Nat) : HS dom (l.take n) M := by
  refine ⟨fun a ha => hs.sub a (List.mem_of_mem_take ha), hs.nd.sublist (List.take_sublist ..), fun i hi => ?_, by rw [List.length_take]; exact Nat.le_trans (Nat.min_le_right ..) hs.len⟩
  rw [List.length_take] at hi
  rw [getD_take (by omega)]
  exact hs.at_ i (by omega)
theorem take_last {l : List Nat} (h0 : 0 < l.length) : l.take (l.length - 1) ++ [l.getD (l.length - 1) 0] = l := by
  have h : l.length - 1 < l.length := by omega
  have := List.take_append_getElem (l := l) (i := l.length - 1) h
  rw [show l.length - 1 + 1 = l.length by omega, List.take_length] at this
  rw [List.getD_eq_getElem?_getD, List.getElem?_eq_getElem h]
  exact this

structure Gone1 (dom l : List Nat) (M : Nat → hold_item) (a : Nat) (l' : List Nat) (M' : Nat → hold_item) : Prop where
  hs : HS dom l' M'
  perm : (l' ++ [a]).Perm l
  same : ∀ x, (M' x).h = (M x).h
  heap : Heap (fun x => stampH (M x).h) l' l'.length

theorem gone_of {dom l l1 : List Nat} {M M1 : Nat → hold_item} {a : Nat} (h : HS dom l1 M1) (hp : l1.Perm l) (same : ∀ x, (M1 x).h = (M x).h) (h0 : 0 < l.length) (hl : l1.getD (l.length - 1) 0 = a) (heap : Heap (fun x => stampH (M x).h) l1 (l.length - 1)) :
    hold_items_Pop ⟨⟨l1⟩⟩ dom M1 = some (a, ⟨⟨l1.take (l1.length - 1)⟩⟩) ∧ Gone1 dom l M a (l1.take (l1.length - 1)) M1 := by
  have hlen := hp.length_eq
  refine ⟨by rw [itemsPop h (by omega), hlen, hl], take_HS h _, ?_, same, ?_⟩
  · rw [← hl, ← hlen, take_last (by omega)]
    exact hp
  · intro c h1 h2
    rw [List.length_take] at h2
    rw [Kf_take (by omega), Kf_take (by omega)]
    exact heap c h1 (by omega)

theorem swap_around {κ : Nat → api_Stamp} {l : List Nat} {i : Nat} (h : Heap κ l l.length) (hi : i < l.length) : Around κ (swapL l i (l.length - 1)) (l.length - 1) i := by
  refine ⟨fun c h1 h2 h3 h4 => ?_, fun c h1 h2 h3 h4 => ?_⟩
  · rw [Kf_swap hi (by omega), Kf_swap hi (by omega), if_neg (by omega), if_neg h4, if_neg (by omega), if_neg h3]
    exact h c h1 (by omega)
  · rw [Kf_swap hi (by omega), Kf_swap hi (by omega), if_neg (by omega), if_neg (by omega), if_neg (by omega), if_neg (by omega)]
    have := h c h2 (by omega)
    rw [h4] at this
    exact leS_trans (h i (by omega) hi) this

theorem remove_spec {dom l : List Nat} {M : Nat → hold_item} {i : Nat} (hs : HS dom l M) (hh : Heap (fun x => stampH (M x).h) l l.length) (hi : i < l.length) :
    ∃ l' M', heap_Remove_i92 ⟨⟨l⟩⟩ i dom M = some (l.getD i 0, ⟨⟨l'⟩⟩, M') ∧ Gone1 dom l M (l.getD i 0) l' M' := by
  have hL := hs.len
  have w : IntKind.wrap .i64 ((l.length : Int) - 1) = ((l.length - 1 : Nat) : Int) := by rw [wr (by omega)]; omega
  unfold heap_Remove_i92
  simp only [bnd, hold_items_Len, w]
  have pop : ∀ (l1 : List Nat) (M1 : Nat → hold_item), HS dom l1 M1 → l1.Perm l → (∀ x, (M1 x).h = (M x).h) → l1.getD (l.length - 1) 0 = l.getD i 0 → Heap (fun x => stampH (M x).h) l1 (l.length - 1) →
      ∃ l' M', heap_Remove_i92.j1 dom M1 l1 = some (l.getD i 0, ⟨⟨l'⟩⟩, M') ∧ Gone1 dom l M (l.getD i 0) l' M' := by
    intro l1 M1 h1 h2 h3 h4 h5
    obtain ⟨e1, e2⟩ := gone_of h1 h2 h3 (by omega) h4 h5
    refine ⟨_, _, ?_, e2⟩
    unfold heap_Remove_i92.j1
    rw [e1, Option.bind_some]
  by_cases e : (((l.length - 1 : Nat) : Int)) = (i : Int)
  · rw [if_pos e]
    have e' : l.length - 1 = i := by omega
    exact pop l M hs (.refl _) (fun _ => rfl) (by rw [e']) (fun c h1 h2 => hh c h1 (by omega))
  · rw [if_neg e, Swap_eq hs hi (by omega), Option.bind_some]
    have hs1 := swap_HS hs hi (show l.length - 1 < l.length by omega)
    have hp1 := swapL_perm hi (show l.length - 1 < l.length by omega)
    have hl1 := swapL_len l i (l.length - 1)
    have hκ : (fun a => stampH (swM M (swapL l i (l.length - 1)) i (l.length - 1) a).h) = fun a => stampH (M a).h := by funext a; rw [swM_h]
    have hg1 : (swapL l i (l.length - 1)).getD (l.length - 1) 0 = l.getD i 0 := by rw [swapL_getD hi (by omega), if_pos rfl]
    obtain ⟨b, l2, M2, d1, d2, d3, d4⟩ := down_spec (n := l.length - 1) (i := i) hs1 (by omega) (by omega) (by rw [hκ]; exact swap_around hh hi)
    rw [hκ] at d3 d4
    rw [d1, Option.bind_some]
    cases b with
    | true =>
      simp only [if_true]
      refine pop l2 M2 d2.hs (d2.perm.trans hp1) (fun x => (d2.same x).trans (swM_h _ _ _ _ _)) ((d2.tail _ (Nat.le_refl _)).trans hg1) (d3 rfl)
    | false =>
      obtain ⟨rfl, rfl, hu⟩ := d4 rfl
      simp only [Bool.false_eq_true, if_false]
      obtain ⟨l3, M3, u1, u2, u3⟩ := up_spec (n := l.length - 1) (j := i) hs1 (by omega) (by omega) (by rw [hκ]; exact hu)
      rw [hκ] at u3
      rw [u1, Option.bind_some]
      refine pop l3 M3 u2.hs (u2.perm.trans hp1) (fun x => (u2.same x).trans (swM_h _ _ _ _ _)) ((u2.tail _ (Nat.le_refl _)).trans hg1) u3

theorem pop_spec {dom l : List Nat} {M : Nat → hold_item} (hs : HS dom l M) (hh : Heap (fun x => stampH (M x).h) l l.length) (hi : 0 < l.length) :
    ∃ l' M', heap_Pop_i92 ⟨⟨l⟩⟩ dom M = some (l.getD 0 0, ⟨⟨l'⟩⟩, M') ∧ Gone1 dom l M (l.getD 0 0) l' M' := by
  have hL := hs.len
  have w : IntKind.wrap .i64 ((l.length : Int) - 1) = ((l.length - 1 : Nat) : Int) := by rw [wr (by omega)]; omega
  unfold heap_Pop_i92
  simp only [bnd, hold_items_Len, w]
  have hsw := Swap_eq hs hi (show l.length - 1 < l.length by omega)
  rw [show ((0 : Nat) : Int) = 0 from rfl] at hsw
  rw [hsw, Option.bind_some]
  have hs1 := swap_HS hs hi (show l.length - 1 < l.length by omega)
  have hp1 := swapL_perm hi (show l.length - 1 < l.length by omega)
  have hl1 := swapL_len l 0 (l.length - 1)
  have hκ : (fun a => stampH (swM M (swapL l 0 (l.length - 1)) 0 (l.length - 1) a).h) = fun a => stampH (M a).h := by funext a; rw [swM_h]
  have hg1 : (swapL l 0 (l.length - 1)).getD (l.length - 1) 0 = l.getD 0 0 := by rw [swapL_getD hi (by omega), if_pos rfl]
  obtain ⟨b, l2, M2, d1, d2, d3, d4⟩ := down_spec (n := l.length - 1) (i := 0) hs1 (by omega) (by omega) (by rw [hκ]; exact swap_around hh hi)
  rw [hκ] at d3 d4
  rw [show ((0 : Nat) : Int) = 0 from rfl] at d1
  rw [d1, Option.bind_some]
  have hheap : Heap (fun x => stampH (M x).h) l2 (l.length - 1) := by
    cases b with
    | true => exact d3 rfl
    | false =>
      obtain ⟨rfl, rfl, hu⟩ := d4 rfl
      exact fun c h1 h2 => hu.rest c h1 h2 (by omega)
  obtain ⟨e1, e2⟩ := gone_of d2.hs (d2.perm.trans hp1) (fun x => (d2.same x).trans (swM_h _ _ _ _ _)) hi ((d2.tail _ (Nat.le_refl _)).trans hg1) hheap
  refine ⟨_, _, ?_, e2⟩
  rw [e1, Option.bind_some]

theorem fix_spec {dom l : List Nat} {M : Nat → hold_item} {i : Nat} (hs : HS dom l M) (ha : Around (fun x => stampH (M x).h) l l.length i) (hi : i < l.length) :
    ∃ l' M', heap_Fix_i92 ⟨⟨l⟩⟩ i dom M = some (⟨⟨l'⟩⟩, M') ∧ Moved dom l.length l M l' M' ∧ Heap (fun x => stampH (M x).h) l' l.length := by
  unfold heap_Fix_i92
  simp only [bnd, hold_items_Len]
  obtain ⟨b, l2, M2, d1, d2, d3, d4⟩ := down_spec hs (Nat.le_refl _) hi ha
  rw [d1, Option.bind_some]
  cases b with
  | true => exact ⟨l2, M2, rfl, d2, d3 rfl⟩
  | false =>
    obtain ⟨rfl, rfl, hu⟩ := d4 rfl
    simp only [Bool.false_eq_true, if_false]
    obtain ⟨l3, M3, u1, u2, u3⟩ := up_spec hs (Nat.le_refl _) hi hu
    rw [u1, Option.bind_some]
    exact ⟨l3, M3, rfl, u2, u3⟩

theorem push_spec {dom l : List Nat} {M : Nat → hold_item} {a : Nat} (hs : HS dom l M) (hh : Heap (fun x => stampH (M x).h) l l.length) (ha : a ∈ dom) (hn : a ∉ l) (hb : (l.length + 1) * 8 ≤ 140737488355328) :
    ∃ l' M', heap_Push_i92_i89 ⟨⟨l⟩⟩ a dom M = some (⟨⟨l'⟩⟩, M') ∧ HS dom l' M' ∧ l'.Perm (l ++ [a]) ∧ (∀ x, (M' x).h = (M x).h) ∧ Heap (fun x => stampH (M x).h) l' l'.length := by
  have hL := hs.len
  let M1 : Nat → hold_item := upd M a (setAt (M a) l.length)
  have hM1 : ∀ x, (M1 x).h = (M x).h := fun x => by
    simp only [M1, upd]
    split
    · rename_i e; subst e; rfl
    · rfl
  have hκ : (fun x => stampH (M1 x).h) = fun x => stampH (M x).h := by funext x; rw [hM1]
  have hs1 : HS dom (l ++ [a]) M1 := by
    refine ⟨fun x hx => ?_, ?_, fun i hi => ?_, by simp; omega⟩
    · rcases List.mem_append.1 hx with hx | hx
      · exact hs.sub x hx
      · rw [List.mem_singleton.1 hx]; exact ha
    · exact List.nodup_append.2 ⟨hs.nd, by simp, fun x hx y hy => by rw [List.mem_singleton.1 hy]; rintro rfl; exact hn hx⟩
    · rw [List.length_append, List.length_singleton] at hi
      by_cases e : i = l.length
      · subst e
        simp [M1, upd, setAt]
      · have hil : i < l.length := by omega
        have hg : (l ++ [a]).getD i 0 = l.getD i 0 := by simp [List.getD_eq_getElem?_getD, List.getElem?_append_left hil]
        rw [hg]
        have hne : l.getD i 0 ≠ a := fun e => hn (e ▸ getD_mem hil)
        simp only [M1, upd]
        rw [if_neg hne]
        exact hs.at_ i hil
  have hK : ∀ i, i < l.length → Kf (fun x => stampH (M x).h) (l ++ [a]) i = Kf (fun x => stampH (M x).h) l i := fun i hi => by
    unfold Kf
    simp [List.getD_eq_getElem?_getD, List.getElem?_append_left hi]
  have hu : UpI (fun x => stampH (M x).h) (l ++ [a]) (l.length + 1) l.length := by
    refine ⟨fun c h1 h2 h3 => ?_, fun c h1 h2 h3 h4 => by omega⟩
    rw [hK _ (by omega), hK _ (by omega)]
    exact hh c h1 (by omega)
  obtain ⟨l3, M3, u1, u2, u3⟩ := up_spec (n := l.length + 1) (j := l.length) hs1 (by simp) (by omega) (by rw [hκ]; exact hu)
  rw [hκ] at u3
  have hlen3 := u2.len
  rw [List.length_append, List.length_singleton] at hlen3
  refine ⟨l3, M3, ?_, u2.hs, u2.perm, fun x => (u2.same x).trans (hM1 x), by rw [hlen3]; exact u3⟩
  unfold heap_Push_i92_i89 hold_items_Push_i89
  simp only [bnd]
  rw [if_pos ha, if_pos hb, Option.bind_some]
  simp only [hold_items_Len]
  have w : IntKind.wrap .i64 (((l ++ [a]).length : Int) - 1) = (l.length : Int) := by
    rw [List.length_append, List.length_singleton, wr (by omega)]; omega
  rw [w]
  have : heap_up_i92 ⟨⟨l ++ [a]⟩⟩ (l.length : Int) dom M1 = some (⟨⟨l3⟩⟩, M3) := u1
  exact (congrArg (fun o : Option (hold_Queue × (Nat → hold_item)) => o.bind fun v3 => some ((⟨⟨v3.1.h.l⟩⟩ : hold_Queue), v3.2)) this).trans rfl
end Go.SyP
