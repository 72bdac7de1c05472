/- Hold: the queue's functions, on the list by rising stamps. -/
import Derived.Test.YtboaahlhgekbbaaP06Q
set_option linter.unusedVariables false
set_option linter.unusedSimpArgs false
namespace Go.SyP
open Go Go.Sy

structure QI (L : List api_Held) (l : List Nat) (M : Nat → hold_item) : Prop where
  hs : HS l l M
  perm : (l.map fun a => (M a).h).Perm L
  heap : Heap (fun a => stampH (M a).h) l l.length
  good : Good L

theorem HS.own {dom l : List Nat} {M : Nat → hold_item} (h : HS dom l M) : HS l l M := ⟨fun _ h => h, h.nd, h.at_, h.len⟩
theorem QI.len {L : List api_Held} {l : List Nat} {M : Nat → hold_item} (h : QI L l M) : l.length = L.length := by
  have := h.perm.length_eq
  simpa using this
theorem QI.mem {L : List api_Held} {l : List Nat} {M : Nat → hold_item} (h : QI L l M) {a : Nat} (ha : a ∈ l) : (M a).h ∈ L := h.perm.mem_iff.1 (List.mem_map.2 ⟨a, ha, rfl⟩)

theorem find_q {L : List api_Held} {l : List Nat} {M : Nat → hold_item} (h : QI L l M) (c s : Int) :
    ∃ o, hold_Queue_find ⟨⟨l⟩⟩ c s l M = some (o, ⟨⟨l⟩⟩) ∧ ((o = none ∧ finH c s L = none) ∨ ∃ i, i < l.length ∧ o = some (l.getD i 0) ∧ finH c s L = some (M (l.getD i 0)).h) := by
  obtain ⟨o, h1, h2⟩ := find_spec h.hs c s
  refine ⟨o, h1, ?_⟩
  rcases h2 with ⟨rfl, h2⟩ | ⟨i, hi, rfl, h2⟩
  · left
    refine ⟨rfl, List.find?_eq_none.2 fun x hx => ?_⟩
    obtain ⟨a, ha, rfl⟩ := List.mem_map.1 (h.perm.mem_iff.2 hx)
    rw [h2 a ha]
    simp
  · right
    exact ⟨i, hi, rfl, finH_of h.good.apart (h.mem (getD_mem hi)) h2⟩

/-- What is at the root stands first. -/
theorem heap_root {κ : Nat → api_Stamp} {l : List Nat} {n : Nat} (h : Heap κ l n) : ∀ i, i < n → leS (Kf κ l 0) (Kf κ l i) := by
  intro i
  induction i using Nat.strongRecOn with
  | _ i ih =>
    intro hi
    by_cases h0 : i = 0
    · rw [h0]; exact leS_refl _
    · exact leS_trans (ih ((i - 1) / 2) (by omega) (by omega)) (h i (by omega) hi)
theorem root_q {x : api_Held} {xs : List api_Held} {l : List Nat} {M : Nat → hold_item} (h : QI (x :: xs) l M) : 0 < l.length ∧ (M (l.getD 0 0)).h = x := by
  have hlen := h.len
  have h0 : 0 < l.length := by rw [hlen]; simp
  refine ⟨h0, ?_⟩
  obtain ⟨a, ha, hx⟩ := List.mem_map.1 (h.perm.mem_iff.2 (List.mem_cons_self (a := x) (l := xs)))
  obtain ⟨i, hi, rfl⟩ := List.mem_iff_getElem.1 ha
  have hroot := heap_root h.heap i hi
  have hgi : l.getD i 0 = l[i] := by simp [hi]
  unfold Kf at hroot
  rw [hgi] at hroot
  simp only [hx] at hroot
  rcases List.mem_cons.1 (h.mem (getD_mem h0)) with e | e
  · exact e
  · exact absurd ((List.pairwise_cons.1 h.good.up).1 _ e) hroot

theorem len_q {L : List api_Held} {l : List Nat} {M : Nat → hold_item} (h : QI L l M) (dom : List Nat) : hold_Queue_Len ⟨⟨l⟩⟩ dom M = ((L.length : Int), ⟨⟨l⟩⟩) := by
  unfold hold_Queue_Len
  rw [← h.len]
theorem floor_q {q : QL} {l : List Nat} {M : Nat → hold_item} (h : QI q.l l M) (clock : Int) : hold_Queue_Floor ⟨⟨l⟩⟩ clock l M = some (qFloor q clock, ⟨⟨l⟩⟩) := by
  unfold hold_Queue_Floor
  simp only [bnd]
  rw [len_q h]
  simp only [len_q h]
  unfold qFloor
  obtain ⟨L, g⟩ := q
  cases L with
  | nil => rfl
  | cons x xs =>
    obtain ⟨h0, hx⟩ := root_q h
    rw [if_neg (by simp; omega), if_pos (by omega), if_pos (getD_mem h0), hx]
theorem own_eq {h : api_Held} (hp : h.M.Pairs.length ≤ 1000000) : hold_own h = some h := by
  unfold hold_own
  rw [if_pos (by omega)]
theorem Find_q {q : QL} {l : List Nat} {M : Nat → hold_item} (h : QI q.l l M) (c s : Int) : hold_Queue_Find ⟨⟨l⟩⟩ c s l M = some ((qFind q c s).1, (qFind q c s).2, ⟨⟨l⟩⟩) := by
  unfold hold_Queue_Find qFind
  obtain ⟨o, h1, h2⟩ := find_q h c s
  simp only [h1, Option.bind_some]
  rcases h2 with ⟨rfl, h2⟩ | ⟨i, hi, rfl, h2⟩
  · rw [h2]
    rfl
  · rw [h2]
    simp only [optE]
    rw [if_pos (getD_mem hi), own_eq (h.good.small _ (h.mem (getD_mem hi))), Option.bind_some]

theorem gone_q {L : List api_Held} {l l' : List Nat} {M M' : Nat → hold_item} {a : Nat} (h : QI L l M) {x : api_Held} {L' : List api_Held} (hg : Gone1 l l M a l' M') (hx : (M a).h = x) (hp : L.Perm (x :: L')) (good : Good L') : QI L' l' M' ∧ ∀ b ∈ l', b ∈ l := by
  have hκ : (fun a => stampH (M' a).h) = fun a => stampH (M a).h := by funext a; rw [hg.same]
  refine ⟨⟨hg.hs.own, ?_, by rw [hκ]; exact hg.heap, good⟩, fun b hb => hg.hs.sub b hb⟩
  have e : (l'.map fun a => (M' a).h) = l'.map fun a => (M a).h := by
    apply List.map_congr_left
    intro a _
    exact hg.same a
  rw [e]
  have p1 := (hg.perm.map fun a => (M a).h).trans (h.perm.trans hp)
  rw [List.map_append, List.map_singleton, hx] at p1
  exact (List.perm_append_singleton x _).symm.trans p1 |>.cons_inv

theorem Pop_q {q : QL} {l : List Nat} {M : Nat → hold_item} (h : QI q.l l M) : ∃ l' M', hold_Queue_Pop ⟨⟨l⟩⟩ l M = some ((qPop q).1, (qPop q).2.1, ⟨⟨l'⟩⟩, M') ∧ QI (qPop q).2.2.l l' M' ∧ ∀ b ∈ l', b ∈ l := by
  unfold hold_Queue_Pop
  simp only [bnd]
  rw [len_q h]
  simp only [len_q h]
  obtain ⟨L, g⟩ := q
  cases L with
  | nil => exact ⟨l, M, rfl, h, fun _ h => h⟩
  | cons x xs =>
    obtain ⟨h0, hx⟩ := root_q h
    rw [if_neg (by simp; omega), if_pos (by omega), if_pos (getD_mem h0), hx]
    simp only [qPop]
    cases hf : x.Final with
    | false =>
      simp only [Bool.not_false, hold_Queue_Pop.j1, if_true, Bool.false_eq_true, if_false]
      exact ⟨l, M, rfl, h, fun _ h => h⟩
    | true =>
      simp only [Bool.not_true, hold_Queue_Pop.j1, Bool.false_eq_true, if_false, if_true]
      obtain ⟨l', M', e1, e2⟩ := pop_spec h.hs h.heap h0
      have hm : (M' (l.getD 0 0)).h = x := (e2.same _).trans hx
      obtain ⟨k1, k2⟩ := gone_q h e2 hx (.refl _) (⟨(List.pairwise_cons.1 g.up).2, (List.pairwise_cons.1 g.apart).2, fun y hy => g.small y (List.mem_cons_of_mem _ hy)⟩ : Good xs)
      refine ⟨l', M', ?_, k1, k2⟩
      rw [e1, Option.bind_some]
      simp only
      rw [if_pos (getD_mem h0), hm]

theorem Drop_q {q : QL} {l : List Nat} {M : Nat → hold_item} (h : QI q.l l M) (c s : Int) : ∃ l' M', hold_Queue_Drop ⟨⟨l⟩⟩ c s l M = some ((qDrop q c s).1, ⟨⟨l'⟩⟩, M') ∧ QI (qDrop q c s).2.l l' M' ∧ ∀ b ∈ l', b ∈ l := by
  unfold hold_Queue_Drop qDrop
  obtain ⟨o, h1, h2⟩ := find_q h c s
  simp only [h1, Option.bind_some]
  rcases h2 with ⟨rfl, h2⟩ | ⟨i, hi, rfl, h2⟩
  · rw [h2]
    exact ⟨l, M, rfl, h, fun _ h => h⟩
  · rw [h2]
    simp only [optE]
    rw [if_pos (getD_mem hi), h.hs.at_ i hi]
    obtain ⟨l', M', e1, e2⟩ := remove_spec h.hs h.heap hi
    obtain ⟨m1, m2⟩ := finH_mem h2
    obtain ⟨k1, k2⟩ := gone_q h e2 rfl (delH_perm h.good.apart m1 m2) (delH_good h.good)
    exact ⟨l', M', by rw [e1, Option.bind_some], k1, k2⟩

theorem perm_map_upd {l : List Nat} (hn : l.Nodup) {f g : Nat → api_Held} {a : Nat} (ha : a ∈ l) (hfg : ∀ b, b ≠ a → g b = f b) {L : List api_Held} (hp : (l.map f).Perm (f a :: L)) : (l.map g).Perm (g a :: L) := by
  have p := List.perm_cons_erase ha
  have hna : a ∉ l.erase a := by
    rw [hn.mem_erase_iff]
    simp
  have e : (l.erase a).map g = (l.erase a).map f := List.map_congr_left fun b hb => hfg b (fun e => hna (e ▸ hb))
  have p1 := (p.map f).symm.trans hp
  rw [List.map_cons] at p1
  have p2 := p.map g
  rw [List.map_cons, e] at p2
  exact p2.trans (p1.cons_inv.cons _)

theorem Final_q {q : QL} {l : List Nat} {M : Nat → hold_item} (h : QI q.l l M) (c s t : Int) : ∃ l' M', hold_Queue_Final ⟨⟨l⟩⟩ c s t l M = some ((qFinal q c s t).1, ⟨⟨l'⟩⟩, M') ∧ QI (qFinal q c s t).2.l l' M' ∧ ∀ b ∈ l', b ∈ l := by
  unfold hold_Queue_Final qFinal
  obtain ⟨o, h1, h2⟩ := find_q h c s
  simp only [h1, Option.bind_some]
  rcases h2 with ⟨rfl, h2⟩ | ⟨i, hi, rfl, h2⟩
  · split
    · rename_i x e
      rw [h2] at e
      cases e
    · exact ⟨l, M, rfl, h, fun _ h => h⟩
  · split
    · rename_i x e
      have hxe : (M (l.getD i 0)).h = x := by rw [h2] at e; injection e
      simp only [optE]
      rw [if_pos (getD_mem hi), hxe]
      by_cases hf : x.Final = true
      · rw [if_pos hf, if_pos hf]
        exact ⟨l, M, rfl, h, fun _ h => h⟩
      · rw [if_neg hf, if_neg hf]
        have hj : ∀ b : Bool, b = true → ∃ l' M', hold_Queue_Final.j1 t l M (some (l.getD i 0), ⟨⟨l⟩⟩) (l.getD i 0) b = some (1, ⟨⟨l'⟩⟩, M') ∧ QI q.l l' M' ∧ ∀ b ∈ l', b ∈ l := by
          intro b hb
          refine ⟨l, M, ?_, h, fun _ h => h⟩
          unfold hold_Queue_Final.j1
          rw [if_pos hb]
        by_cases ht : t < x.Time
        · rw [if_pos ht, if_pos (.inl ht)]
          exact hj true rfl
        · rw [if_neg ht, timed_eq]
          cases htb : timedB t with
          | false =>
            rw [if_pos (.inr rfl)]
            exact hj _ rfl
          | true =>
            rw [if_neg (by simp [ht])]
            unfold hold_Queue_Final.j1
            simp only [Bool.not_true, Bool.false_eq_true, if_false, bnd]
            generalize ha : l.getD i 0 = a at hxe
            have hal : a ∈ l := ha ▸ getD_mem hi
            -- the item with its time
            have hM4 : ∃ M4 : Nat → hold_item, M4 = upd M a ⟨toFinal x t, (M a).at_⟩ := ⟨_, rfl⟩
            obtain ⟨M4, hM4⟩ := hM4
            have e4 : ∀ (M3 : Nat → hold_item), M3 = upd M a (⟨⟨(M a).h.M, t, (M a).h.Final⟩, (M a).at_⟩ : hold_item) → upd M3 a (⟨⟨(M3 a).h.M, (M3 a).h.Time, true⟩, (M3 a).at_⟩ : hold_item) = M4 := by
              rintro M3 rfl
              rw [hM4]
              funext b
              simp only [upd]
              by_cases e : b = a
              · simp only [if_pos e, if_true, hxe, toFinal]
              · rw [if_neg e, if_neg e, if_neg e]
            have e5 := e4 _ rfl
            have hat : (M4 a).at_ = (i : Int) := by
              rw [hM4]
              simp only [upd, if_true]
              rw [← ha]
              exact h.hs.at_ i hi
            have h4 : ∀ b, b ≠ a → M4 b = M b := fun b hb => by rw [hM4]; simp [upd, hb]
            have h4a : (M4 a).h = toFinal x t := by rw [hM4]; simp [upd]
            have hs4 : HS l l M4 := ⟨h.hs.sub, h.hs.nd, fun k hk => by
              by_cases e : l.getD k 0 = a
              · rw [e, hat, getD_inj h.hs.nd hk hi (e.trans ha.symm)]
              · rw [h4 _ e]
                exact h.hs.at_ k hk, h.hs.len⟩
            have hK : ∀ k, k < l.length → k ≠ i → Kf (fun b => stampH (M4 b).h) l k = Kf (fun b => stampH (M b).h) l k := fun k hk hne => by
              unfold Kf
              show stampH (M4 _).h = stampH (M _).h
              rw [h4 _ fun e => hne (getD_inj h.hs.nd hk hi (e.trans ha.symm))]
            have har : Around (fun b => stampH (M4 b).h) l l.length i := by
              refine ⟨fun c' c1 c2 c3 c4 => ?_, fun c' c1 c2 c3 c4 => ?_⟩
              · rw [hK _ (by omega) c4, hK _ c2 c3]
                exact h.heap c' c1 c2
              · rw [hK _ (by omega) (by omega), hK _ (by omega) (by omega)]
                have := h.heap c' c2 c3
                rw [c4] at this
                exact leS_trans (h.heap i c1 hi) this
            obtain ⟨l', M', f1, f2, f3⟩ := fix_spec hs4 har hi
            have e6 : ∀ M3 M5 : Nat → hold_item, M3 = upd M a ⟨⟨(M a).h.M, t, (M a).h.Final⟩, (M a).at_⟩ → M5 = upd M3 a ⟨⟨(M3 a).h.M, (M3 a).h.Time, true⟩, (M3 a).at_⟩ → heap_Fix_i92 ⟨⟨l⟩⟩ (M5 a).at_ l M5 = some (⟨⟨l'⟩⟩, M') := by
              intro M3 M5 h3 h5
              rw [h5, e4 M3 h3, hat]
              exact f1
            have hκ' : (fun b => stampH (M' b).h) = fun b => stampH (M4 b).h := by funext b; rw [f2.same]
            obtain ⟨m1, m2⟩ := finH_mem e
            have hfa : (M a).h = x := by rw [← ha] at hxe ⊢; exact hxe
            have pa := perm_map_upd (g := fun b => (M4 b).h) h.hs.nd (f := fun b => (M b).h) hal (fun b hb => by show (M4 b).h = (M b).h; rw [h4 b hb]) (L := delH c s q.l) (by show (l.map _).Perm ((M a).h :: _); rw [hfa]; exact h.perm.trans (delH_perm h.good.apart m1 m2))
            have pa : (l.map fun b => (M4 b).h).Perm (toFinal x t :: delH c s q.l) := by rw [← h4a]; exact pa
            have e7 : (l'.map fun b => (M' b).h) = l'.map fun b => (M4 b).h := List.map_congr_left fun b _ => f2.same b
            refine ⟨l', M', (congrArg (fun o : Option (hold_Queue × (Nat → hold_item)) => o.bind fun v5 => some ((0 : Int), (⟨⟨v5.1.h.l⟩⟩ : hold_Queue), v5.2)) (e6 _ _ rfl rfl)).trans rfl, ⟨f2.hs.own, ?_, ?_, fin_good h.good e⟩, fun b hb => f2.perm.mem_iff.1 hb⟩
            · rw [e7]
              exact ((f2.perm.map _).trans pa).trans (insH_perm _ _).symm
            · rw [hκ', f2.len]
              exact f3
    · rename_i e
      rw [h2] at e
      cases e
end Go.SyP
